/- CONTRACTS: JournalAt, the program's side. -/
import Derived.Test.YtpjbamibcngihaaGreatDoorGAX
import Derived.Test.YtpjbamibcngihaaGreatDoorGAW
namespace Go.D3
open Go
set_option maxHeartbeats 4000000
set_option maxRecDepth 100000
theorem Rd.ss{w:World}{A:Nat->Prop}{v:Value}{d:D}(h:Rd w A v (.vw d)):Rd w A v d:=by
 cases h with
 | vw h=>exact h
theorem Rd.MA{w:World}{A:Nat->Prop}{v:Value}{L:List af}(h:Rd w A v (ae dD none (L.map some))):Rd w A v (ae af.d af.zero L):=by
 have hcell:∀(e:af)(k:Nat)(x:D),(af.d e).cells[k]?=some x->(dD (some e)).cells[k]?=some (.vw x):=fun e k x hx=>by
  match k,hx with
  | 0,hx=>cases hx;rfl
  | 1,hx=>cases hx;rfl
 have key:∀{sz j:Nat}{x:D},cellAt (L.map af.d) sz j=some x->cellAt ((L.map some).map dD) sz j=some (.vw x):=fun {sz j x} hx=>by
  unfold cellAt at hx|-
  rw[List.getElem?_map] at hx;rw[List.map_map,List.getElem?_map];cases hq:L[j / sz]? with
  | none=>rw[hq] at hx;cases hx
  | some r =>
   rw[hq] at hx;simp only[Option.map_some,Option.bind_some,Function.comp] at hx|-
   exact hcell r _ x hx
 generalize hd:ae dD none (L.map some)=d at h;cases h<;>simp only[ae,D.slice.injEq,reduceCtorEq] at hd
 case nil=>obtain⟨_,h2⟩:=hd;cases L with | nil=>exact .nil | cons a b=>simp at h2
 case empty hm=>obtain⟨_,h2⟩:=hd;cases L with | nil=>exact .empty hm | cons a b=>simp at h2
 case slice hA hc hm hz hzz hsz vs hcells hr =>
  obtain⟨rfl,rfl⟩:=hd;rw[List.length_map,List.length_map] at hc|-
  rw[show L.length=(L.map af.d).length by rw[List.length_map]]
  exact .slice (z:=af.d af.zero) hA (by rw[List.length_map];exact hc) hm hz hzz (fun x hx=>by
   obtain⟨r,hr',rfl⟩:=List.mem_map.1 hx
   exact hsz (dD (some r)) (List.mem_map.2 ⟨some r,List.mem_map.2 ⟨r,hr',rfl⟩,rfl⟩)) vs (fun j x hx=>hcells j _ (key hx)) fun j x hx=>by
    exact(hr j _ (key hx)).ss
def Hs.pl(s:aa)(H:Hs):D:=bX.d ⟨s,H.dt,H.tx,H.gd⟩
theorem Rd.hs{w:World}{A:Nat->Prop}{v:Value}{s:aa}{H:Hs}(h:Rd w A v (Hs.d s H)):Rd w A v (Hs.pl s H):=by
 unfold Hs.d at h;generalize hd:([.int .i64 s.nd,.vw (ints s.fr),.vw (ints s.to),.vw (ae U.d U.zero s.lf),.vw (ae U.d U.zero s.rt),ae dD none (H.dt.map some),ae (ae ah.d ah.zero) [] H.tx,.int .i64 H.gd]:List D)=l at h;cases h with
 | agg hs hr =>
  subst hd;refine .agg hs fun j x hx=>?_
  match j,hx with
  | 0,hx=>cases hx;exact hr 0 _ rfl
  | 1,hx=>cases hx;exact(hr 1 _ rfl).ss
  | 2,hx=>cases hx;exact(hr 2 _ rfl).ss
  | 3,hx=>cases hx;exact(hr 3 _ rfl).ss
  | 4,hx=>cases hx;exact(hr 4 _ rfl).ss
  | 5,hx=>cases hx;exact(hr 5 _ rfl).MA
  | 6,hx=>cases hx;exact hr 6 _ rfl
  | 7,hx=>cases hx;exact hr 7 _ rfl
def lv:Option (aa×Hs)->D
 | some p=>.au [Hs.pl p.1 p.2,.bool true]
 | none=>.au [bX.d bX.zero,.bool false]
theorem Rd.SW{w:World}{A:Nat->Prop}{v:Value}{o:Option (aa×Hs)}(h:Rd w A v (yH o)):Rd w A v (lv o):=by
 cases o with
 | none=>exact h
 | some p =>
  unfold yH at h;generalize hd:([Hs.d p.1 p.2,.bool true]:List D)=l at h;cases h with
  | au hs hr =>
   subst hd;refine .au hs fun j x hx=>?_
   match j,hx with
   | 0,hx=>cases hx;exact(hr 0 _ rfl).hs
   | 1,hx=>cases hx;exact hr 1 _ rfl
theorem aC.Xm{P:Program}{f:FuncId}{xs:List D}{res res':D}(hb:ij P f=true)(hx:∀x∈xs,x.refs eP)(hr:res'.c8=true)(hR:∀(w:World)(A:Nat->Prop)(v:Value),Rd w A v res->Rd w A v res')(h:aC P f (xs.map .v) res):fV P f xs [] res' []:=by
 refine⟨hb,fun w A vs gv Fs h0 h1 h2 h3 h4 h5 h6 h7=>(h w A vs (fun _ _=>False) h0 h1 (by simpa using h2) (fun j a ha=>?_) (fun _ _ _ _ h=>h.elim) (fun _ _ h=>h.elim)).mono ?_⟩
 ·rw[List.getElem?_map,Option.map_eq_some_iff] at ha
  obtain⟨d,hd,rfl⟩:=ha;exact⟨sN (h3 j d hd) (hx d (List.mem_of_getElem? hd)),fun _ h=>h⟩
 ·rintro e w' ⟨v,F,Fs',he,hsz,hown,_,hF,_,_,hsame,hos⟩
  refine⟨_,_,v,fun _=>False,gv,fun _ _=>False,⟨rfl,rfl⟩,he,hsz,(pO hr).2 (.rd (hR _ _ _ (yK hown fun b hb=>⟨(hF b hb).1,(hF b hb).2.1.elim id fun⟨_,hj⟩=>hj.elim⟩))),fun _ _ h=>h,fun _=>Pl.dead,fun _ _ _ h=>h,fun _ _=>rfl,fun _ h=>h.elim,fun _ _ h=>h.elim,fun _ _ _ _ h=>h.elim,fun b hb _=>hsame b hb fun _ h=>h,hos⟩
theorem u4(t:List UInt8)(ht:t.length<=5000000):fV Go.Proofs.Tryz.prog 28 [.str t,.int .i64 1000000] [] (lv (bn t)) [] :=
 aC.Xm (xs:=[.str t,.int .i64 1000000]) (by decide +kernel) (fun x hx=>by simp at hx;rcases hx with rfl | rfl<;>trivial) (by cases bn t<;>rfl) (fun _ _ _ h=>h.SW) (Vk t ht)
def Ca:List Nat:=[0,2,1]
def J8:Sl:=ak Go.Proofs.Tryz.types Go.Proofs.Tryz.f32 Ca []
theorem Ss:aF Go.Proofs.Tryz.prog Go.Proofs.Tryz.f32 Ca J8 1=true:=by decide +kernel
theorem u7(x:bX)(h : 0<x.dt.length)(hl:x.dt.length<=4294966000):fV Go.Proofs.Tryz.prog 32 [bX.d x] [] (af.d (x.dt.getD (x.dt.length-1) af.zero)) []:=by
 refine mN .refs Go.Proofs.Tryz.func32 Ss ?_;unfold J8 ak Ca;simp only[go_sem];have hw:IntKind.i64.wrap ((x.dt.length:Int)-1)=((x.dt.length-1:Nat):Int):=by rw[wrap_small (by omega) (by omega)];omega
 rw[hw];exact⟨⟨by omega,by omega⟩,rfl⟩
def fJ(d:af)(x:Nat):List ah:=(List.range x).flatMap fun i:Nat=>List.replicate (d.sz.getD i 0).toNat (⟨1,i,0,0⟩:ah)
def fm(d:af)(k n:Nat):List ah:=(List.range n).map fun r:Nat=>(⟨2,k,r,(d.mp.getD k []).getD r 0⟩:ah)
def gM(d:af)(k:Nat):List ah:=(List.range k).flatMap fun i=>fm d i (d.mp.getD i []).length
def db(d:af):List ah:=fJ d d.sz.length++gM d d.mp.length
theorem sG{d:af}{x:Nat}:fJ d (x+1)=fJ d x++List.replicate (d.sz.getD x 0).toNat ⟨1,x,0,0⟩:=by
 unfold fJ;rw[List.range_succ,List.flatMap_append,List.flatMap_singleton]
theorem vg{d:af}{k:Nat}:gM d (k+1)=gM d k++fm d k (d.mp.getD k []).length:=by
 unfold gM;rw[List.range_succ,List.flatMap_append,List.flatMap_singleton]
theorem zT{d:af}{k n:Nat}:fm d k (n+1)=fm d k n++[⟨2,k,n,(d.mp.getD k []).getD n 0⟩]:=by
 unfold fm;rw[List.range_succ,List.map_append];rfl
theorem oT{s:aa}{d:af}(hd:br s d):∀{x:Nat},x<=d.sz.length->(fJ d x).length<=16*x
 | 0,_=>Nat.le_refl _
 | x+1,h=>by
  have:=oT hd (x:=x) (by omega);have:=hd.eH x (by omega);rw[sG,List.length_append,List.length_replicate];omega
theorem vf{s:aa}{d:af}(hs:cQ s)(hd:br s d):∀{k:Nat},k<=d.mp.length->(gM d k).length<=16*k
 | 0,_=>Nat.le_refl _
 | k+1,h=>by
  have:=vf hs hd (k:=k) (by omega);have:=hd.mA hs k;rw[vg,List.length_append];simp only[fm,List.length_map,List.length_range];omega
theorem KA{s:aa}{d:af}(hs:cQ s)(hd:br s d):(db d).length<=256:=by
 have h1:=oT hd (Nat.le_refl _);have h2:=vf hs hd (Nat.le_refl _);have:=hd.nd;have:=hs.n8;have:=hs.f8;have:=hd.mp;unfold db;rw[List.length_append];omega
def Cg:List Nat:=[0,2,1,3,4,5,6,7]
def Ke:Sl:=ak Go.Proofs.Tryz.types Go.Proofs.Tryz.f48 Cg []
theorem Sz:aF Go.Proofs.Tryz.prog Go.Proofs.Tryz.f48 Cg Ke 1=true:=by decide +kernel
theorem Vm(s:aa)(d:af)(hs:cQ s)(hd:br s d):aC Go.Proofs.Tryz.prog 48 [.v (af.d d)] (ae ah.d ah.zero (db d)):=by
 have hnd:=hd.nd;have hn8:=hs.n8;have hf8:=hs.f8;have hmp:=hd.mp;refine aQ Go.Proofs.Tryz.func48 Sz ?_;unfold Ke ak Cg;simp only[go_sem];refine aE [5] (fun(x:Nat)=>[(3,.o (ae ah.d ah.zero (fJ d x))),(4,.int .i64 x)]) (fun x=>x<=d.sz.length) (fun x=>d.sz.length-x) 0 (by simp only[go_sem];rfl) (Nat.zero_le _) rfl ?_;intro x hx;simp only[go_sem];refine⟨fun h=>?_,fun h=>?_⟩
 ·have hz:=hd.eH x h
  have hal:=oT hd hx;refine aE [] (fun(r:Nat)=>[(3,.o (ae ah.d ah.zero (fJ d x++List.replicate r ⟨1,x,0,0⟩))),(5,.int .i64 r)]) (fun r=>(r:Int)<=d.sz.getD x 0) (fun r=>(d.sz.getD x 0).toNat-r) 0 (by simp only[go_sem];rfl) hz.1 (by rw[List.replicate_zero,List.append_nil];rfl) ?_;intro r hr;simp only[go_sem];refine⟨h,fun h2=>?_,fun h2=>?_⟩
  ·refine⟨by rw[List.length_append,List.length_replicate];omega,r+1,by omega,by omega,?_⟩
   rw[wrap_small (by omega) (by omega),List.append_assoc,<-List.replicate_succ'];rfl
  ·refine⟨x+1,h,by omega,?_⟩
   rw[wrap_small (by omega) (by omega),sG,show r=(d.sz.getD x 0).toNat by omega];rfl
 ·have hxe:x=d.sz.length:=by omega
  subst hxe;have hal:=oT hd hx;refine aE [7] (fun(k:Nat)=>[(3,.o (ae ah.d ah.zero (fJ d d.sz.length++gM d k))),(6,.int .i64 k)]) (fun k=>k<=d.mp.length) (fun k=>d.mp.length-k) 0 (by simp only[go_sem];rfl) (Nat.zero_le _) (by rw[show gM d 0=[] from rfl,List.append_nil];rfl) ?_;intro k hk;simp only[go_sem];refine⟨fun h=>?_,fun h=>?_⟩
  ·have hml:=hd.mA hs k
   have hsl:=vf hs hd hk;refine aE [] (fun(r:Nat)=>[(3,.o (ae ah.d ah.zero (fJ d d.sz.length++gM d k++fm d k r))),(7,.int .i64 r)]) (fun r=>r<=(d.mp.getD k []).length) (fun r=>(d.mp.getD k []).length-r) 0 (by simp only[go_sem];rfl) (Nat.zero_le _) (by rw[show fm d k 0=[] from rfl,List.append_nil];rfl) ?_;intro r hr;have hrl:(fm d k r).length=r:=by simp only[fm,List.length_map,List.length_range]
   simp only[go_sem];refine⟨h,fun h2=>⟨h,h2,?_,r+1,h2,by omega,?_⟩,fun h2=>⟨k+1,h,by omega,?_⟩⟩
   ·rw[List.length_append,List.length_append,hrl];omega
   ·rw[wrap_small (by omega) (by omega),zT,List.append_assoc _ (fm d k r)];rfl
   ·rw[wrap_small (by omega) (by omega),vg,show r=(d.mp.getD k []).length by omega,List.append_assoc];rfl
  ·rw[show k=d.mp.length by omega];rfl
end Go.D3
namespace Go.D3
open Go
set_option maxRecDepth 100000
def bX.of(s:aa)(H:Hs):bX:=⟨s,H.dt,H.tx,H.gd⟩
theorem tO{s:aa}{H:Hs}:(bX.of s H).dt.getD ((bX.of s H).dt.length-1) af.zero=H.last:=rfl
def oy:Option (aa×Hs)->D
 | some p=>.au [ints p.2.last.sz,aI p.2.last.mp,.int .i64 p.2.tx.length,.int .i64 p.2.gd,.int .i64 0]
 | none=>.au [ints [],aI [],.int .i64 0,.int .i64 0,.int .i64 6]
end Go.D3
namespace Go.D3
open Go
set_option maxRecDepth 100000
theorem EE{α:Type}{l:List α}{i:Nat}{x d:α}(h:i<l.length):(l.set i x).getD i d=x:=by
 rw[List.getD_eq_getElem?_getD,List.getElem?_set_self h];rfl
theorem Mz{l:List af}{i:Nat}(h:i<l.length):(((ae af.d af.zero l).eM i 0 .dead).un.dL i 1).un=aI (l.getD i af.zero).mp:=by
 show(((((l.map af.d).set i (dJ ((l.map af.d).getD i (af.d af.zero)) 0 .dead)).getD i (af.d af.zero)).cells).getD 1 .dead).un=_;rw[EE (by simpa using h),getD_map'];rfl
theorem My{l:List af}{i:Nat}(h:i<l.length):(((ae af.d af.zero l).eM i 1 .dead).un.dL i 0).un=ints (l.getD i af.zero).sz:=by
 show(((((l.map af.d).set i (dJ ((l.map af.d).getD i (af.d af.zero)) 1 .dead)).getD i (af.d af.zero)).cells).getD 0 .dead).un=_;rw[EE (by simpa using h),getD_map'];rfl
def Aw:List Nat:=[0,2,3,4,5,6,7,8,9]
def Iv:Sl:=ak Go.Proofs.Tryz.types Go.Proofs.Tryz.f10 Aw [(0,35),(4,7),(7,77)]
theorem QC:aF Go.Proofs.Tryz.prog Go.Proofs.Tryz.f10 Aw Iv 1=true:=by decide +kernel
theorem Hz(t:List UInt8)(ht:t.length<=1048576):aC Go.Proofs.Tryz.prog 10 [.v (.str t)] (oy (bn t)):=by
 refine aQ Go.Proofs.Tryz.func10 QC ?_;unfold Iv ak Aw;simp only[go_sem];refine av (uY t ht) rfl (.inl (uv _)) ?_;cases hr:bn t with
 | none =>
  simp only[gW];simp only[go_sem];exact⟨fun _=>rfl,fun h=>absurd h (by decide)⟩
 | some p =>
  obtain⟨hok,hH⟩:=gJ hr;have hdl:=hH.dl;have h6:=hH.t6;have hgl:=hH.gl;have hnow:=Us p.1 p.2.dt p.2.tx p.2.gd (by omega) (by omega);simp only[gW];unfold fy at hnow|-
  simp only[go_sem];refine⟨fun h=>absurd h (by decide),fun _=>?_⟩;refine en [6] false hnow ?_;simp only[go_sem];rw[Mz (by omega)];rfl
end Go.D3
namespace Go.D3
open Go
set_option maxRecDepth 100000
def sM(k:Int):Option (aa×Hs)->D
 | some p=>if aP k 0 p.2.tx.length=true then .au [ints (p.2.dt.getD k.toNat af.zero).sz,aI (p.2.dt.getD k.toNat af.zero).mp,.int .i64 0] else .au [ints [],aI [],.int .i64 2]
 | none=>.au [ints [],aI [],.int .i64 6]
theorem fU.at'{s:aa}{t:List UInt8}{H:Hs}(h:fU s t H){i:Nat}(hi:i<H.dt.length):br s (H.dt.getD i af.zero):=by
 rw[aS hi];exact h.w4 _ (List.getElem_mem _)
end Go.D3
namespace Go.D3
open Go
set_option maxRecDepth 100000
def As:List Nat:=[0,1,4,5,6,7,8]
def Ir:Sl:=ak Go.Proofs.Tryz.types Go.Proofs.Tryz.f11 As [(4,7)]
theorem Qy:aF Go.Proofs.Tryz.prog Go.Proofs.Tryz.f11 As Ir 2=true:=by decide +kernel
theorem Uk(t:List UInt8)(k:Int)(ht:t.length<=1048576):aC Go.Proofs.Tryz.prog 11 [.v (.str t),.v (.int .i64 k)] (sM k (bn t)):=by
 refine aQ Go.Proofs.Tryz.func11 Qy ?_;unfold Ir ak As;simp only[go_sem];refine av (uY t ht) rfl (.inl (uv _)) ?_;cases hr:bn t with
 | none =>
  simp only[gW];simp only[go_sem];exact⟨fun _=>rfl,fun h=>absurd h (by decide)⟩
 | some p =>
  obtain⟨hok,hH⟩:=gJ hr;have hdl:=hH.dl;have h6:=hH.t6;have hgl:=hH.gl;simp only[gW];unfold fy;simp only[go_sem];refine⟨fun h=>absurd h (by decide),fun _=>?_⟩;refine av (lD k 0 p.2.tx.length) rfl (.inl rfl) ?_;cases hin:aP k 0 p.2.tx.length with
  | false =>
   simp only[go_sem];simp only[sM,hin];rfl
  | true =>
   have hk : 0<=k/\k<=p.2.tx.length:=by unfold aP at hin;simpa using hin
   have hki:k.toNat<p.2.dt.length:=by omega
   simp only[go_sem];refine⟨⟨hk.1,by omega⟩,hki,⟨hk.1,by omega⟩,hki,?_⟩;rw[My hki];simp only[sM,hin];rfl
end Go.D3
