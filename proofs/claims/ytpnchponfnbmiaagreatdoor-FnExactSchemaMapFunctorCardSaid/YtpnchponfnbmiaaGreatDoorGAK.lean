/- CONTRACTS: slices.SortFunc at rows of numbers, from the library's contract. Generic. -/
import Derived.Test.YtpnchponfnbmiaaGreatDoorGAJ
import Derived.Test.YtpnchponfnbmiaaGreatDoorHG
import Derived.Shelf.SlLaysF
import Derived.Test.YtpnchponfnbmiaaGreatDoorProg
import Derived.Shelf.SlSortCmp.NoneTotal
namespace Go.D3
open Go
theorem wc:∀{l:List Int}{m:Int},m<=l.foldl (fun m k=>max m (k+1)) m/\∀x∈l,x+1<=l.foldl (fun m k=>max m (k+1)) m
 | [],m=>⟨Int.le_refl _,fun x hx=>by cases hx⟩
 | y::l,m=>by
  obtain⟨h1,h2⟩:=wc (l:=l) (m:=max m (y+1));rw[List.foldl_cons];refine⟨by omega,fun x hx=>?_⟩;rcases List.mem_cons.1 hx with rfl | hx
  ·omega
  ·exact h2 x hx
theorem Db:∀{l:List Int}{m n:Int},m<=n->(∀x∈l,x+1<=n)->l.foldl (fun m k=>max m (k+1)) m<=n
 | [],_,_,h,_=>h
 | y::l,m,n,h,hl=>Db (l:=l) (m:=max m (y+1)) (by have:=hl y List.mem_cons_self;omega) fun x hx=>hl x (List.mem_cons_of_mem _ hx)
theorem JJ(L:List Int):∃nc:Nat,(dK L).foldl (fun m k=>max m (k+1)) 0=(nc:Int)/\nc<=L.length/\(∀i,i<L.length->0<=(dK L).getD i 0/\(dK L).getD i 0<nc)/\∀c,c<nc->∃m,m<L.length/\(dK L).getD m 0=c:=by
 have h:=mN (L:=L) L.length (Nat.le_refl _);rw[List.take_length] at h;have hlen:(dK L).length=L.length:=h.len;have hsl:=h.sle (Nat.le_refl _);refine⟨(dL L).1.length,?_,hsl,fun i hi=>?_,fun c hc=>h.s c hc⟩
 ·refine Int.le_antisymm (Db (by omega) fun x hx=>?_) ?_
  ·obtain⟨i,hi,rfl⟩:=dZ (d:=0) hx
   obtain⟨k,h1,h2,_⟩:=h.o i (by omega);have:(dK L).getD i 0=k:=h2;omega
  ·by_cases h0:(dL L).1.length=0
   ·have:=(wc (l:=dK L) (m:=0)).1
    omega
   ·obtain⟨m,h1,h2⟩:=h.s ((dL L).1.length-1) (by omega)
    have:=(wc (l:=dK L) (m:=0)).2 _ (cR (d:=0) (show m<(dK L).length by omega));have e:(dK L).getD m 0=((((dL L).1.length-1:Nat)):Int):=h2;omega
 ·obtain⟨k,h1,h2,_⟩:=h.o i hi
  have:(dK L).getD i 0=k:=h2;omega
theorem ie.iE{s:Sch}(hok:s.ok=true){list:List Pth}(hA:dp s list)(hn:list.Nodup){cl:List Int}(hc:gF s list cl){nc:Nat}{K:List Pth}(h:ie s list cl nc K){c:Nat}(hcn:c<nc)(h6:(K.getD c Pth.zero).ed.length=6):s.fv none:=by
 obtain⟨ls,hL⟩:=Sch.cu.HG hok hn hA;obtain⟨m,a1,a2,a3⟩:=h.ex c hcn;have hsp:s.sp (K.getD c Pth.zero):=by rw[a3];exact hA.at' a1
 obtain⟨q,hq,he⟩:=hL.ex _ hsp
 have e:K.getD c Pth.zero=q:=by
  refine lt_eq (hL.min q hq _ he.symm) fun hlt=>?_
  obtain⟨y,hy⟩:=hL.sp q hq;obtain⟨k,hk,rfl⟩:=dZ (d:=Pth.zero) (hA.a q y hy);rw[a3] at he;have:=(hc.eq m k a1 hk).2 he;exact h.min k c hk hcn (by omega) hlt
 refine .iE ls hL fun hall=>?_
 have:=hall.1 q hq;rw[<-e] at this;omega
end Go.D3
namespace Go.D3
open Go
set_option maxHeartbeats 4000000
set_option maxRecDepth 100000
theorem TK{A B C:Prop}(hA:C->A)(hB:C->B)(hC:C):A/\B:=⟨hA hC,hB hC⟩
def fk:Option Pth->D
 | some p=>.agg [.int .i64 p.st,ints p.ed]
 | none=>.agg [.int .i64 0,.vw (.aC (.int .i64 0))]
theorem QF{n:Nat}:D.slice (.agg [.int .i64 0,.vw (.aC (.int .i64 0))]) (List.replicate n (.agg [.int .i64 0,.vw (.aC (.int .i64 0))]))=U fk none (List.replicate n none):=by unfold U;rw[List.map_replicate];rfl
theorem El{M:List (Option Pth)}{c:Nat}(h:c<M.length){a:Int}{b:List Int}:((U fk none M).eu c 0 (.int .i64 a)).eu c 1 (U (.int .i64) 0 b)=U fk none (M.set c (some ⟨a,b⟩)):=by
 unfold U;simp only[D.eu,D.cT];have e:(M.map fk).getD c (fk none)=fk (M.getD c none):=by rw[getD_map']
 rw[e];have h2:dG (fk (M.getD c none)) 0 (.int .i64 a)=.agg [.int .i64 a,(match M.getD c none with | some p=>ints p.ed | none=>.vw (.aC (.int .i64 0)))]:=by cases M.getD c none<;>rfl
 rw[h2,List.set_set,List.getD_eq_getElem?_getD,List.getElem?_set_self (by simpa using h),List.map_set];rfl
theorem PV{K:List Pth}{i:Nat}(h:i<K.length):(K.map some).getD i none=some (K.getD i Pth.zero):=by rw[aX (by simpa using h),List.getElem_map,aX h]
attribute [go_sem] QF
def AK(s:Sch)(l:List D):Prop:=(∃o,l=[U Pth.d Pth.zero o,.bc]/\uw s o)\/∃m,l=[U Pth.d Pth.zero [],.bk 181 (.agg [.str m])]/\¬s.fits
theorem Rx(s:Sch)(hs:gi s):bV Go.Proofs.Tryz.prog 172 [.ptr s.cells] [] fun rc gs=>gs=[]/\∃l,rc=.af l/\AK s l:=bV.view (Q:=AK s) (Q0 s hs)
structure ju(s:Sch)(list:List Pth)(cl:List Int)(K:List Pth):Prop where
 sh:uw s list
 c:gF s list cl
 k:ie s list cl K.length K
 fZ:∀p∈K,p.ed.length<6
def Ik(s:Sch)(rc:D)(gs:List D):Prop:=gs=[]/\∃l,rc=.af l/\((∃list cl K,l=[.ptr [j5 list,ints cl,U fk none (K.map some)],.bc]/\ju s list cl K)\/∃m,l=[.aN,.bk 181 (.agg [.str m])]/\s.fv none)
def yU:List Nat:=[0,2,3,4,5,6,7,8,9,10,11,12,13,14,16,28,29,30,49,50,51,60,61,157,158,159]
def FO:Sl:=ae Go.Proofs.Tryz.types Go.Proofs.Tryz.f140 yU [(0,172),(0,175),(2,178),(4,2),(7,86),(9,1),(12,95)]
theorem Nw:aD Go.Proofs.Tryz.prog Go.Proofs.Tryz.f140 yU FO 1=true:=by decide +kernel
theorem QY(s:Sch)(h:s.ok=true):bV Go.Proofs.Tryz.prog 140 [.ptr s.cells] [] (Ik s):=by
 obtain⟨hk1,hlf,hrt⟩:=fg h;have hs:=ga hk1;refine nK .view Go.Proofs.Tryz.func140 Nw ?_;unfold FO ae yU;simp only[go_sem];refine mS [] false (Rx s hs) ?_;rintro _ _ ⟨rfl,l,rfl,hq⟩;refine⟨(by repeat(first | exact trivial | refine⟨(fun h=>by cases h),?_⟩)),(fun h=>by cases h),?_⟩;rcases hq with⟨o,rfl,hq⟩ | ⟨m,rfl,hq⟩
 rotate_left
 ·simp only[go_sem]
  exact⟨_,_,⟨rfl,_,rfl,.inr ⟨_,rfl,.many hq⟩⟩,rfl,rfl,trivial⟩
 simp only[go_sem];have hl:=hq.len;have hv:∀p∈o,s.sp p:=hq.a.v;refine aI [6,7] (fun(i:Nat)=>[(5,.box [.o (.ptr [bz D.str (D.int .i64) (ow o i),ints [],U Pth.d Pth.zero []])]),(17,.int .i64 i)]) (fun i=>i<=o.length) (fun i=>o.length-i) 0 (by simp only[go_sem];rfl) (Nat.zero_le _) rfl ?_;intro i hi;simp only[go_sem];refine⟨fun h1=>?_,fun h1=>?_⟩
 ·have hp:=cR (d:=Pth.zero) h1
  have hsp:=hv _ hp;have h6:(o.getD i Pth.zero).ed.length<=6:=by obtain⟨z,hz⟩:=hsp;exact(bw.1 hz).2.1
  refine⟨h1,ak (xE _ _ (rl hs hsp) (by omega)) rfl (.inl rfl) ?_⟩;simp only[go_sem];rw[show(⟨(o.getD i Pth.zero).st,(o.getD i Pth.zero).ed⟩:Pth)=o.getD i Pth.zero from rfl,Je hs hv hq.nd h1,aH h1 (by simp only[maxLen];omega)];exact⟨by unfold ow;rw[PO];simp only[maxLen];omega,i+1,h1,by omega,rfl⟩
 obtain rfl:i=o.length:=by omega
 refine ak (Q4 o.length (by omega)) rfl (.inl (bL _)) ?_;simp only[go_sem];refine aI [9,10,11,21,22] (fun(p:Nat×List Int)=>[(8,.box [.o (ints p.2)]),(20,.int .i64 p.1)]) (fun p=>p.1<=o.length/\cV s o p.2 p.1 0 0) (fun p=>o.length-p.1) (0,br o.length) (by simp only[go_sem];rfl) ⟨Nat.zero_le _,cV.zero hq.a⟩ rfl ?_;rintro⟨w,J⟩ ⟨hw,hJ⟩;simp only at hw hJ;simp only[go_sem];refine⟨fun h2=>⟨h2,?_⟩,fun h2=>?_⟩
 ·refine aI [11] (fun(p:Nat×List Int)=>[(8,.box [.o (ints p.2)]),(22,.int .i64 p.1)]) (fun p=>p.1<=s.lf.length/\cV s o p.2 w p.1 0) (fun p=>s.lf.length-p.1) (0,J) (by simp only[go_sem];rfl) ⟨Nat.zero_le _,hJ⟩ rfl ?_
  rintro⟨i,L⟩ ⟨hi2,hL⟩;simp only at hi2 hL;simp only[go_sem];refine⟨fun h3=>⟨h3,by omega,?_⟩,fun h3=>?_⟩
  ·refine mS [8,9,5,10] false (QW s h o hq.a hv hq.nd hl L w i h2 h3 hL (ints []) (U Pth.d Pth.zero [])) ?_
   rintro _ _ ⟨K,rfl,rfl,hK⟩;refine⟨(by repeat(first | exact trivial | refine⟨(fun h=>by cases h),?_⟩)),(fun h=>by cases h),?_⟩;simp only[go_sem];exact⟨(i+1,K),⟨h3,hK.wo (Nat.lt_succ_self _)⟩,by simp only;omega,by rw[aH h3 (by simp only[maxLen];omega)]⟩
  ·exact⟨(w+1,L),⟨h2,hL.wq (by omega)⟩,by simp only;omega,by rw[aH h2 (by simp only[maxLen];omega)]⟩
 obtain rfl:w=o.length:=by omega
 have hU:=hJ.uf;have hjl:=hJ.len;have hio:∀K:St->Prop,∀st:St,bN [.sub 8 [(0,0)]] (fun l st=>∃x y,l=[x]/\[Arg.io (.o (ints J)) (.o (ints (gI J J.length)))]=.io (.o x) (.o y)::[].map .v/\eD [.sub 8 [(0,0)]] [y] (fun st=>K (st.push (aM (ints (dK (fR J J.length)))))) st) st->@ja _ Go.Proofs.Tryz.prog 178 (.sub 8 [(0,0)]) (some []) true True none ⟨K⟩ st:=fun K st hh=>fc (Q6 J hU (by omega)) trivial hh
 apply TK
 ·intro hc
  refine hio _ _ ?_;simp only[go_sem];exact⟨_,_,rfl,rfl,rfl,hc⟩
 ·intro hc
  refine hio _ _ ?_;simp only[go_sem];exact⟨_,_,rfl,rfl,rfl,hc⟩
 clear hio;obtain⟨nc,hnc,hncl,hb,hex⟩:=JJ (fR J J.length);have hcl:gF s o (dK (fR J J.length)):=hJ.cls hq.a hq.nd (oZ.trans hjl) (fun i hi=>K0 (by omega)) uT;rw[oZ,hjl] at hncl hb hex;rw[hjl];rw[hjl] at hcl hnc;generalize dK (fR J o.length)=cl at hcl hnc hb hex;have hcll:=hcl.len;refine ak (Re cl (by omega) (fun i hi=>by have:=hb i (by omega);omega)) rfl (.inl rfl) ?_;rw[hnc];simp only[go_sem];refine⟨⟨Nat.le_refl _,by omega⟩,?_⟩;rw[wrap_small (by omega) (by omega)];refine aI [13] (fun(p:Nat×List (Option Pth))=>[(5,.box [.o (.ptr [j5 o,ints cl,U fk none p.2])]),(12,.int .i64 ((p.1:Int)-1))]) (fun p=>p.1<=o.length/\gG s o cl nc p.1 p.2) (fun p=>p.1) (o.length,List.replicate nc none) (by simp only[go_sem];rfl) ⟨Nat.le_refl _,gG.zero⟩ rfl ?_;rintro⟨i,M⟩ ⟨hi3,hM⟩;simp only at hi3 hM;simp only[go_sem];have hMl:=hM.len;refine⟨fun h3=>?_,fun h3=>?_⟩
 ·obtain⟨j,rfl⟩:∃j,i=j+1:=⟨i-1,by omega⟩
  have ej:((j+1:Nat):Int)-1=j:=by omega
  obtain⟨hb1,hb2⟩:=hb j (by omega);obtain⟨c,hc⟩:∃c:Nat,cl.getD j 0=c:=⟨(cl.getD j 0).toNat,by omega⟩;simp only[ej,Int.toNat_natCast,hc];have hj6:(o.getD j Pth.zero).ed.length<=6:=by obtain⟨z,hz⟩:=hv _ (cR (d:=Pth.zero) (show j<o.length by omega));exact(bw.1 hz).2.1
  have fin:M.getD c none=none\/(∃q,M.getD c none=some q/\s.lt (o.getD j Pth.zero) q)->gG s o cl nc j (M.set c (some (o.getD j Pth.zero))):=fun hh=>hM.set (by omega) hc (by omega) fun p hp=>by
   rcases hh with hh | ⟨q,hh,hlt⟩
   ·rw[hh] at hp;cases hp
   ·rw[hh] at hp;injection hp with hp;rw[<-hp];exact hlt
  cases hMc:M.getD c none with
  | none =>
   simp only[go_sem,fk,hMc];refine⟨by omega,by omega,by omega,bO (res:=.int .i64 0) (fun h=>by cases h) rfl (fun h=>by cases h) (.inl rfl) ?_⟩;simp only[go_sem];refine⟨by omega,by omega,ak (jl _ (by omega)) rfl (.inl (bL _)) ?_⟩;simp only[go_sem,fk,hMc];rw[El (by omega)];exact⟨by omega,by omega,(j,_),⟨by simp only;omega,fin (.inl hMc)⟩,by simp only;omega,by rw[wrap_small (by omega) (by omega)]⟩
  | some q =>
   obtain⟨m,m1,m2,m3,m4,m5⟩:=hM.yes c q (by omega) hMc;have heq:=(hcl.eq j m (by omega) m2).1 (by omega);have hee:=lC h heq;rw[<-m4] at hee;have hq6:q.ed.length<=6:=by obtain⟨z,hz⟩:=hee.2.2.2;exact(bw.1 hz).2.1
   have hqn:q.ed≠[]:=fun e=>by
    have hmn:m<s.nd.toNat:=Nat.lt_of_not_le fun hh=>hq.f.2.1 m hh m2 (m4▸e)
    have:=hq.f.2.2 j (by omega)
    have e2:o.getD j Pth.zero=q:=by
     cases hx:o.getD j Pth.zero;cases q;rw[hx] at this hee;simp only at this hee e;rw[this,hee.1,e]
    have:=getD_inj hq.nd (show j<o.length by omega) m2 (e2.trans m4);omega
   have hql : 0<q.ed.length:=List.length_pos_iff.2 hqn;simp only[go_sem,fk,hMc];refine⟨by omega,by omega,by omega,by omega,by omega,by omega,by omega,bO (fun _=>E1 (o.getD j Pth.zero) q (by omega) (by omega)) rfl (fun h=>h) (.inl rfl) ?_⟩;simp only[go_sem];have hlt:=JO (s:=s) (p:=o.getD j Pth.zero) (q:=q) hee.1 hee.2.1;refine⟨fun h4=>?_,fun h4=>?_⟩
   ·refine⟨by omega,by omega,ak (jl _ (by omega)) rfl (.inl (bL _)) ?_⟩
    simp only[go_sem,fk,hMc];rw[El (by omega)];exact⟨by omega,by omega,(j,_),⟨by simp only;omega,fin (.inr ⟨q,hMc,hlt.1 h4⟩)⟩,by simp only;omega,by rw[wrap_small (by omega) (by omega)]⟩
   ·exact⟨(j,M),⟨by simp only;omega,hM.bJ hc (by omega) hMc fun hh=>h4 (hlt.2 hh)⟩,by simp only;omega,by rw[wrap_small (by omega) (by omega)]⟩
 obtain rfl:i=0:=by omega
 obtain⟨K,rfl,hK⟩:=hM.done hb hex;have hKl:=hK.len;refine aI [14] (fun(i:Nat)=>[(25,.int .i64 i)]) (fun i=>i<=K.length/\∀k,k<i->(K.getD k Pth.zero).ed.length≠6) (fun i=>K.length-i) 0 (by simp only[go_sem];rfl) ⟨Nat.zero_le _,fun k hk=>absurd hk (Nat.not_lt_zero _)⟩ rfl ?_;rintro i ⟨hi5,h6⟩;by_cases h7:i<K.length
 ·simp only[go_sem,PV h7,fk,List.length_map]
  refine⟨fun _=>⟨h7,h7,fun h8=>?_,fun h8=>?_⟩,fun h8=>absurd h7 h8⟩
  ·exact⟨_,_,⟨rfl,_,rfl,.inr ⟨_,rfl,hK.iE h hq.a hq.nd hcl (c:=i) (by omega) (by omega)⟩⟩,rfl,rfl,trivial⟩
  ·refine⟨i+1,⟨h7,fun k hk=>?_⟩,by omega,by rw[aH h7 (by simp only[maxLen];omega)]⟩
   by_cases hki:k=i
   ·subst hki
    rw[beq_eq_false_iff_ne] at h8;omega
   ·exact h6 k (by omega)
 ·simp only[go_sem,List.length_map]
  refine⟨fun h8=>absurd h8 h7,fun _=>⟨_,_,⟨rfl,_,rfl,.inl ⟨o,cl,K,rfl,hq,hcl,by rw[hKl];exact hK,fun p hp=>?_⟩⟩,rfl,rfl,trivial⟩⟩;obtain⟨k,hk,rfl⟩:=dZ (d:=Pth.zero) hp;obtain⟨m,m1,_,m3⟩:=hK.ex k (by omega);have h9:=h6 k (by omega);obtain⟨z,hz⟩:=hv _ (cR (d:=Pth.zero) m1);rw[<-m3] at hz;have:=(bw.1 hz).2.1;omega
def Il(s:Sch)(l:List D):Prop:=(∃list cl K,l=[.ptr [j5 list,ints cl,U Pth.d Pth.zero K],.bc]/\ju s list cl K)\/∃m,l=[.aN,.bk 181 (.agg [.str m])]/\s.fv none
theorem PW{K:List Pth}:(U fk none (K.map some)).strip=U Pth.d Pth.zero K:=by
 rw[tU (g:=Pth.d) (e:=Pth.zero) (t:=fun o:Option Pth=>o.getD Pth.zero) rfl (fun x hx=>?_),List.map_map]
 ·congr 1
  exact List.map_id K
 ·obtain⟨p,_,rfl⟩:=List.mem_map.1 hx
  show D.agg [_,(ints p.ed).strip]=_;rw[dj];rfl
theorem Rt(s:Sch)(h:s.ok=true):bV Go.Proofs.Tryz.prog 140 [.ptr s.cells] [] fun rc gs=>gs=[]/\∃l,rc=.af l/\Il s l:=by
 refine(bV.clean (Q:=fun l=>(∃list cl K,l=[.ptr [j5 list,ints cl,U fk none (K.map some)],.bc]/\ju s list cl K)\/∃m,l=[.aN,.bk 181 (.agg [.str m])]/\s.fv none) (QY s h) fun l hl=>?_).imp fun r g ⟨hg,l,hr,hl⟩=>⟨hg,_,hr,?_⟩
 ·rcases hl with⟨_,_,_,rfl,_⟩ | ⟨_,rfl,_⟩<;>exact⟨trivial,trivial,trivial⟩
 ·rcases hl with⟨o,cl,K,rfl,hh⟩ | ⟨m,rfl,hh⟩
  ·refine .inl ⟨o,cl,K,?_,hh⟩
   show[D.ptr [_,(ints cl).strip,(U fk none (K.map some)).strip],_]=_;rw[dj,PW];rfl
  ·exact .inr ⟨m,rfl,hh⟩
end Go.D3
namespace Go.Proofs
open Go.Shelf
def Tryz.Te:Go.Shelf.Ren:=⟨fun | 6=>182 | 15=>211 | 14=>210 | 28=>239 | 29=>215 | 20=>231 | 21=>232 | 22=>233 | 23=>234 | 24=>235 | 25=>236 | 26=>237 | 27=>238 | 46=>254 | 47=>255 | 48=>256 | 49=>257 | 50=>258 | 57=>270 | n=>n,fun | 22=>22 | 24=>2 | 25=>262 | 3=>3 | 39=>298 | 0=>0 | 53=>303 | 55=>279 | 4=>4 | 46=>323 | 45=>322 | 50=>327 | 5=>5 | 9=>9 | 66=>344 | 70=>348 | 76=>364 | 77=>365 | n=>n,fun | n=>n⟩
theorem Tryz.Td:Go.Proofs.SlLaysF.n6 Tryz.prog Tryz.Te:={
 mixed:=by kernel_rfl
 f6:=⟨Tryz.f182.name,by decide,Tryz.func182.trans (congrArg some (by kernel_rfl))⟩
 f14:=⟨Tryz.f210.name,by decide,Tryz.func210.trans (congrArg some (by kernel_rfl))⟩
 f15:=Tryz.func211.trans (congrArg some (by kernel_rfl))
 f20:=⟨Tryz.f231.name,by decide,Tryz.func231.trans (congrArg some (by kernel_rfl))⟩
 f21:=⟨Tryz.f232.name,by decide,Tryz.func232.trans (congrArg some (by kernel_rfl))⟩
 f22:=⟨Tryz.f233.name,by decide,Tryz.func233.trans (congrArg some (by kernel_rfl))⟩
 f23:=⟨Tryz.f234.name,by decide,Tryz.func234.trans (congrArg some (by kernel_rfl))⟩
 f24:=⟨Tryz.f235.name,by decide,Tryz.func235.trans (congrArg some (by kernel_rfl))⟩
 f25:=⟨Tryz.f236.name,by decide,Tryz.func236.trans (congrArg some (by kernel_rfl))⟩
 f26:=⟨Tryz.f237.name,by decide,Tryz.func237.trans (congrArg some (by kernel_rfl))⟩
 f27:=⟨Tryz.f238.name,by decide,Tryz.func238.trans (congrArg some (by kernel_rfl))⟩
 f28:=Tryz.func239.trans (congrArg some (by kernel_rfl))
 f29:=Tryz.func215.trans (congrArg some (by kernel_rfl))
 f46:=⟨Tryz.f254.name,by decide,Tryz.func254.trans (congrArg some (by kernel_rfl))⟩
 f47:=Tryz.func255.trans (congrArg some (by kernel_rfl))
 f48:=Tryz.func256.trans (congrArg some (by kernel_rfl))
 f49:=⟨Tryz.f257.name,by decide,Tryz.func257.trans (congrArg some (by kernel_rfl))⟩
 f50:=⟨Tryz.f258.name,by decide,Tryz.func258.trans (congrArg some (by kernel_rfl))⟩
 f57:=⟨Tryz.f270.name,by decide,Tryz.func270.trans (congrArg some (by kernel_rfl))⟩
 t0:=Tryz.underlying0
 a0:=Tryz.isAgg0
 z0:=Tryz.sizeOf0
 v0:=Tryz.zeroValue0
 t3:=Tryz.underlying3
 a3:=Tryz.isAgg3
 z3:=Tryz.sizeOf3
 v3:=Tryz.zeroValue3
 t4:=Tryz.underlying4
 a4:=Tryz.isAgg4
 z4:=Tryz.sizeOf4
 v4:=Tryz.zeroValue4
 t5:=Tryz.underlying5
 a5:=Tryz.isAgg5
 z5:=Tryz.sizeOf5
 v5:=Tryz.zeroValue5
 t9:=Tryz.underlying9
 a9:=Tryz.isAgg9
 z9:=Tryz.sizeOf9
 v9:=Tryz.zeroValue9
 t22:=Tryz.underlying22
 a22:=Tryz.isAgg22
 z22:=Tryz.sizeOf22
 v22:=Tryz.zeroValue22
 a24:=Tryz.isAgg2
 z24:=Tryz.sizeOf2
 t25:=Tryz.underlying262
 a25:=Tryz.isAgg262
 z25:=Tryz.sizeOf262
 v25:=Tryz.zeroValue262
 t39:=Tryz.underlying298
 a39:=Tryz.isAgg298
 z39:=Tryz.sizeOf298
 v39:=Tryz.zeroValue298
 t45:=Tryz.underlying322
 a45:=Tryz.isAgg322
 z45:=Tryz.sizeOf322
 v45:=Tryz.zeroValue322
 t46:=Tryz.underlying323
 a46:=Tryz.isAgg323
 z46:=Tryz.sizeOf323
 v46:=Tryz.zeroValue323
 t50:=Tryz.underlying327
 a50:=Tryz.isAgg327
 z50:=Tryz.sizeOf327
 v50:=Tryz.zeroValue327
 t53:=Tryz.underlying303
 a53:=Tryz.isAgg303
 z53:=Tryz.sizeOf303
 v53:=Tryz.zeroValue303
 t55:=Tryz.underlying279
 a55:=Tryz.isAgg279
 z55:=Tryz.sizeOf279
 v55:=Tryz.zeroValue279
 t66:=Tryz.underlying344
 a66:=Tryz.isAgg344
 z66:=Tryz.sizeOf344
 v66:=Tryz.zeroValue344
 t70:=Tryz.underlying348
 a70:=Tryz.isAgg348
 z70:=Tryz.sizeOf348
 v70:=Tryz.zeroValue348
 t76:=Tryz.underlying364
 a76:=Tryz.isAgg364
 z76:=Tryz.sizeOf364
 v76:=Tryz.zeroValue364
 t77:=Tryz.underlying365
 a77:=Tryz.isAgg365
 z77:=Tryz.sizeOf365
 v77:=Tryz.zeroValue365 }
end Go.Proofs
namespace Go.D3
open Go Go.Proofs Go.Sort Go.Shelf
set_option maxHeartbeats 2000000
theorem vD{α:Type}[Inhabited α]{enc:α->Value}{w:World}{blk off m:Nat}{dk:Array α}{os:Array Obj} :
  (sortWorld enc w blk off m dk os).heap=(w.heap.modify blk (onCells (putCells enc off dk)))++os:=rfl
theorem HH{α:Type}[Inhabited α]{enc:α->Value}{w:World}{blk off m:Nat}{dk:Array α}{os:Array Obj}{b:Nat}(hb:b<w.heap.size)(hn:b≠blk):(sortWorld enc w blk off m dk os).heap[b]?=w.heap[b]?:=by
 rw[vD,Array.getElem?_append_left (by simpa using hb),Array.getElem?_modify,if_neg (fun e=>hn e.symm)]
theorem HI{α:Type}[Inhabited α]{enc:α->Value}{w:World}{blk off m:Nat}{dk:Array α}{os:Array Obj}:w.heap.size<=(sortWorld enc w blk off m dk os).heap.size:=by
 rw[vD,Array.size_append,Array.size_modify];omega
theorem Tf{α:Type}[Inhabited α]{enc:α->Value}{w:World}{blk off m:Nat}{dk:Array α}{os:Array Obj}{cs:Array Value}{e:TypeId}{fz:Nat×Nat}(hb:w.heap[blk]?=some (.cells cs e fz)) :
  (sortWorld enc w blk off m dk os).heap[blk]?=some (.cells (putCells enc off dk cs) e fz):=by
 have hlt:blk<w.heap.size:=(Array.getElem?_eq_some_iff.1 hb).1;rw[vD,Array.getElem?_append_left (by simpa using hlt),Array.getElem?_modify,if_pos rfl,hb];rfl
theorem Kn{w w':World}(hs:w.heap.size<=w'.heap.size)(hh:∀b,b<w.heap.size->w'.heap[b]?=w.heap[b]?)(h1:w'.os=w.os)(h2:w'.tape=w.tape)(h3:w'.output=w.output)(h4:w.drawn<=w'.drawn) :
  ∃q os,w'=grow (w.drewN q) os:=by
 refine⟨w'.drawn-w.drawn,w'.heap.extract w.heap.size w'.heap.size,?_⟩
 have e:w'.heap=w.heap++w'.heap.extract w.heap.size w'.heap.size:=by
  apply Array.ext_getElem?;intro k;by_cases hk:k<w.heap.size
  ·rw[Array.getElem?_append_left hk,hh k hk]
  ·rw[Array.getElem?_append_right (by omega),Array.getElem?_extract]
   split
   ·congr 1;omega
   ·rw[Array.getElem?_eq_none (by omega)]
 cases w;cases w';simp only[grow,World.drewN] at *;subst h1 h2 h3;congr 1;omega
theorem Iz{a b:Value}{c:Array Value}:(#[a,b]++c).getD 0 undef=a:=by
 simp only[Array.getD_eq_getD_getElem?];rw[Array.getElem?_append_left (by simp)];rfl
theorem IA{a b:Value}{c:Array Value}:(#[a,b]++c).getD (0+1) undef=b:=by
 simp only[Array.getD_eq_getD_getElem?];rw[Array.getElem?_append_left (by simp)];rfl
theorem Ry{P:Program}{ρ:Ren}(L:SlLaysF.n6 P ρ)(hbd:dY P (ρ.f 6)=true){g:FuncId}(eg:∀args w,(callFunc g args).run P w=.ok (.enter g args) w){caps:List D}(hcr:∀c∈caps,c.refs db){n:Nat}(hn:n<=1048576)(cf:Nat->Nat->Int)
  (hO:SWO (α:=Fin n) (ltOf fun a b=>cf a.1 b.1)) (hcmp:∀a b:Nat,a<n->b<n->@al ⟨true⟩ P g (.v (.int .i64 a)::.v (.int .i64 b)::caps.map .v) (.int .i64 (cf a b))) (l:List (Fin n)) (hl:l.length<=1048576) :
  bV P (ρ.f 6) [.sub 0 [],.fn g caps] [.o (ints (l.map fun i=>(i.1:Int)))] fun rc gs=>rc=.af []/\∃l':List (Fin n),gs=[.o (ints (l'.map fun i=>(i.1:Int)))]/\l'.Perm l/\l'.Pairwise fun a b=>¬cf b.1 a.1<0:=by
 refine⟨hbd,fun w A vs gv Fs h0 h1 h2 h3 h4 h5 h6 h7=>?_⟩
 have hvs:vs=#[vs.getD 0 undef,vs.getD 1 undef]:=by
  match vs,h2 with
  | ⟨[a,b]⟩,_=>rfl
 have hv0:vs.getD 0 undef=gv 0:=by
  obtain⟨_,hv,_⟩:=di (h3 0 _ rfl);simp only[aK,Option.some.injEq] at hv;exact hv.symm
 have hfn:Rd w A (vs.getD 1 undef) (.fn g caps):=mL (h3 1 _ rfl) (by
  show bB db caps
  exact bj.2 hcr)
 have hown:aj w A (gv 0) (ints (l.map fun i=>(i.1:Int))) (Fs 0):=h4 0
 have fin:∀{e:Ending}{w':World}{l':List (Fin n)},e=.returned (.tuple #[])->w.heap.size<=w'.heap.size->aj w' A (gv 0) (ints (l'.map fun i=>(i.1:Int))) (Fs 0)->(∀b,b<w.heap.size->¬Fs 0 b->w'.heap[b]?=w.heap[b]?)->w'.os=w.os->w'.tape=w.tape->w'.output=w.output ->
   l'.Perm l->(l'.Pairwise fun a b=>¬cf b.1 a.1<0)->∃(rc:D)(gs':List D)(v:Value)(F:Nat->Prop)(gv':Nat->Value)(Fs':Nat->Nat->Prop),(rc=.af []/\∃l':List (Fin n),gs'=[.o (ints (l'.map fun i=>(i.1:Int)))]/\l'.Perm l/\l'.Pairwise fun a b=>¬cf b.1 a.1<0)/\e=.returned v/\w.heap.size<=w'.heap.size /\
   aE w' (fun b=>A b\/(w.heap.size<=b/\b<w'.heap.size/\¬F b/\∀j,¬Fs' j b)) (aa w' (nth gs') gv') v F rc/\(rc.isObj=false->∀b,¬F b) /\
   (∀k,aE w' (fun b=>A b\/(w.heap.size<=b/\b<w'.heap.size/\¬F b/\∀j,¬Fs' j b)) (aa w' (nth gs') gv') (gv' k) (Fs' k) (nth gs' k))/\(∀k,(nth gs' k).isObj=false->∀b,¬Fs' k b) /\
   (∀k,nth [D.o (ints (l.map fun i=>(i.1:Int)))] k≠.dead->gv' k=gv k) /\
   (∀b,F b->b<w'.heap.size/\(w.heap.size<=b\/∃j,Fs j b)/\∀j,¬Fs' j b)/\(∀j b,Fs' j b->b<w'.heap.size/\(w.heap.size<=b\/∃j,Fs j b))/\(∀i j b,i≠j->Fs' i b->¬Fs' j b) /\
   (∀b,b<w.heap.size->(∀j,¬Fs j b)->w'.heap[b]?=w.heap[b]?)/\w'.os=w.os/\w'.tape=w.tape/\cB w w':=by
  intro e w' l' he hsz hown' hsame hos htape hout hp hs;refine⟨.af [],[.o (ints (l'.map fun i=>(i.1:Int)))],.tuple #[],fun _=>False,gv,Fs,⟨rfl,l',rfl,hp,hs⟩,he,hsz,.rd (.af rfl fun j x hx=>by simp at hx),fun _ _ h=>h,fun k=>?_,fun k hk b hb=>?_,fun _ _=>rfl,fun _ h=>h.elim,fun j b hb=>⟨Nat.lt_of_lt_of_le (h7 j b hb).1 hsz,.inr ⟨j,hb⟩⟩,h6,fun b hb hn=>hsame b hb (hn 0),hos,htape,DX hout⟩
  ·cases k with
   | zero=>exact hown'.mono (fun b hb=>.inl hb) (fun _ _=>rfl) (fun _ _=>rfl) fun _ h=>h
   | succ k=>exact Pl.dead
  ·cases k with
   | zero=>cases hk
   | succ k=>exact h5 (k+1) rfl b hb
 rw[hvs,hv0];by_cases hl0:l=[]
 ·subst hl0
  obtain⟨p,cap,hv,_⟩:=qT (show aj w A (gv 0) (.slice (.int .i64 0) []) (Fs 0) from hown);rw[hv];refine(AnyF.slices_SortFunc_none { L with } p cap (vs.getD 1 undef) w).mono ?_;rintro e w' ⟨rfl,rfl⟩;exact fin rfl (Nat.le_refl _) hown (fun _ _ _=>rfl) rfl rfl rfl (List.Perm.refl _) List.Pairwise.nil
 have hn0 : 0<n:=by
  cases l with
  | nil=>exact absurd rfl hl0
  | cons a r=>exact Nat.lt_of_le_of_lt (Nat.zero_le _) a.2
 haveI:Inhabited (Fin n):=⟨⟨0,hn0⟩⟩
 generalize hv1:vs.getD 1 undef=v1 at hfn;cases hfn with
 | @fn _ cb _ hcs hcr' =>
 have hlen:(l.map fun i=>(i.1:Int)).length=l.length:=List.length_map _
 obtain⟨b,off,cap,cs,e,fz,hgv,hb,hroom,hcm,hm,hcell,hF⟩:∃b off cap cs e fz,gv 0=.slice (some ⟨b,off,none⟩) l.length cap/\w.heap[b]?=some (.cells cs e fz)/\(off+cap<=cs.size/\(fz.2<=fz.1\/cs.size<=fz.1))/\l.length<=cap/\cap<=maxLen/\(∀j (hj:j<l.length),cs.getD (off+j) undef=.int .i64 (l[j].1:Int))/\Fs 0 b:=by
  generalize hg0:gv 0=v0 at hown;unfold ints U at hown;have hLl:((l.map fun i=>(i.1:Int)).map (D.int .i64)).length=l.length:=by simp
  generalize hLL:(l.map fun i=>(i.1:Int)).map (D.int .i64)=LL at hown hLl;cases hown with
  | nil=>exact absurd (List.length_eq_zero_iff.1 hLl.symm) hl0
  | @slice _ _ b off cap sz cs e fz _ Fs' hb hroom hc hm hz hzz hsz hr hF hfs hdis =>
   have hsz1:sz=1:=by rw[<-hzz];rfl
   subst hsz1;refine⟨b,off,cap,cs,e,fz,by rw[hLl],hb,by simpa using hroom,by omega,hm,fun j hj=>?_,hF⟩
   have hc1:cellAt LL 1 j=some (.int .i64 (l[j].1:Int)):=by
    rw[<-hLL];unfold cellAt;simp[Nat.mod_one,hj,D.cells]
   have:=hr j _ hc1;generalize cs.getD (off+j) undef=u at this;cases this;rfl
 have hblt:b<w.heap.size:=(Array.getElem?_eq_some_iff.1 hb).1;have hbA:¬A b:=(h7 0 b hF).2;have hds:l.toArray.size=l.length:=by simp
 have hdj:∀j (hj:j<l.length),(l.toArray[j]!)=l[j]:=fun j hj=>by simp[hj]
 have hH:Holds (fun i:Fin n=>Value.int .i64 (i.1:Int)) w b off l.toArray:=fun j hj=>by
  rw[hds] at hj;have hlt:off+j<cs.size:=by omega
  refine⟨?_,?_⟩
  ·rw[eB hb hlt,hcell j hj,hdj j hj]
  ·simp only[World.frozen?,hb]
   rcases hroom.2 with h | h
   ·simp;omega
   ·simp;omega
 have hcmp':CmpLays1 P g cb (fun i:Fin n=>Value.int .i64 (i.1:Int)) (fun a b=>cf a.1 b.1) b off l.toArray.size w:=by
  intro m os dk hdk x y;have hA':∀c,A c->(sortWorld (fun i:Fin n=>Value.int .i64 (i.1:Int)) w b off m dk os).heap[c]?=w.heap[c]?:=fun c hc=>HH (h1 c hc) (fun e=>hbA (e▸hc))
  have hint:∀z:Fin n,IntKind.i64.has (z.1:Int):=fun z=>by
   have:=z.2;exact kq (by simp only[maxLen];omega)
  refine(@hcmp x.1 y.1 x.2 y.2 (sortWorld (fun i:Fin n=>Value.int .i64 (i.1:Int)) w b off m dk os) A (#[.int .i64 (x.1:Int),.int .i64 (y.1:Int)]++cb) (fun _ _=>False) (h0.mono (fun _ h=>h) hA') (fun c hc=>Nat.lt_of_lt_of_le (h1 c hc) HI) (by simp only[Array.size_append,List.size_toArray,List.length_cons,List.length_nil,List.length_map,hcs];omega) (fun j a ha=>?_) (fun _ _ _ _ h=>h.elim) (fun _ _ h=>h.elim)).mono ?_
  ·cases j with
   | zero =>
    simp only[List.getElem?_cons_zero,Option.some.injEq] at ha;subst ha;exact⟨by rw[Iz];exact .int (hint x),fun _ h=>h⟩
   | succ j =>
    cases j with
    | zero =>
     simp only[List.getElem?_cons_succ,List.getElem?_cons_zero,Option.some.injEq] at ha;subst ha;exact⟨by rw[IA];exact .int (hint y),fun _ h=>h⟩
    | succ j =>
     simp only[List.getElem?_cons_succ,List.getElem?_map,Option.map_eq_some_iff] at ha;obtain⟨d,hd,rfl⟩:=ha;refine⟨?_,fun _ h=>h⟩;have:=hcr' j d hd
     have e1:(#[Value.int .i64 (x.1:Int),.int .i64 (y.1:Int)]++cb).getD (j+1+1) undef=cb.getD j undef:=by
      simp only[Array.getD_eq_getD_getElem?];rw[Array.getElem?_append_right (by simp)];rfl
     rw[e1];exact this.mono (fun _ h=>h) hA'
  ·rintro e' w' ⟨v,F,Fs',rfl,hsz,hown',_,_,_,_,hsame,hos,htape,hout⟩
   cases hown' with
   | int _=>exact⟨rfl,Kn hsz (fun c hc=>hsame c hc fun _ h=>h) hos htape hout.1 (hout.2 rfl)⟩
 rw[hgv,show l.length=l.toArray.size from hds.symm];refine(Any.slices_SortFunc L (fun i:Fin n=>Value.int .i64 (i.1:Int)) (fun _=>rfl) (fun a b=>cf a.1 b.1) hO g cb b off cap l.toArray w eg hcmp' hH hblt (by rw[hds];omega)).mono ?_;rintro e' w' ⟨he,d',m,os,⟨hp1,_,hp3⟩,hs,rfl⟩;have hd's:d'.size=l.length:=by rw[hp1,hds]
 have hperm:d'.toList.Perm l:=by
  have e1:d'.extract 0 l.toArray.size=d':=by rw[<-hp1];exact Array.extract_size
  have e2:l.toArray.extract 0 l.toArray.size=l.toArray:=Array.extract_size;rw[e1,e2] at hp3;simpa using hp3
 refine fin (l':=d'.toList) he HI ?_ (fun c hc hn=>HH hc fun e=>hn (e▸hF)) rfl rfl rfl hperm ?_
 ·rw[hgv]
  have hL:(d'.toList.map fun i=>(i.1:Int)).length=l.length:=by simp[hd's]
  have:=aj.slice (w:=sortWorld (fun i:Fin n=>Value.int .i64 (i.1:Int)) w b off m d' os) (A:=A) (z:=.int .i64 0) (L:=(d'.toList.map fun i=>(i.1:Int)).map (D.int .i64)) (b:=b) (off:=off) (cap:=cap) (sz:=1) (e:=e) (fz:=fz) (F:=Fs 0) (fun _ _=>False) (Tf hb)
   (by
     have e3:(putCells (fun i:Fin n=>Value.int .i64 (i.1:Int)) off d' cs).size=cs.size:=by simp[putCells]
     rw[e3,Nat.mul_one];exact hroom) (by rw[List.length_map,hL];exact hcm) hm Nat.one_pos rfl (fun x hx=>by
     obtain⟨y,_,rfl⟩:=List.mem_map.1 hx;rfl) (fun j x hx=>?_) hF (fun _ _ h=>h.elim) (fun _ _ _ _ h=>h.elim)
  ·rw[List.length_map,hL] at this
   exact this
  ·have hj:j<l.length:=by
    unfold cellAt at hx;simp only[Nat.div_one] at hx;cases hg:((d'.toList.map fun i=>(i.1:Int)).map (D.int .i64))[j]? with
    | none=>rw[hg] at hx;cases hx
    | some y=>have:=(List.getElem?_eq_some_iff.1 hg).1;rwa [List.length_map,hL] at this
   have hlt:off+j<cs.size:=by omega
   have hx':x=.int .i64 ((d'[j]'(by omega)).1:Int):=by
    unfold cellAt at hx;simp[Nat.mod_one,hd's,hj,D.cells] at hx;exact hx.symm
   have e4:(putCells (fun i:Fin n=>Value.int .i64 (i.1:Int)) off d' cs).getD (off+j) undef=.int .i64 ((d'[j]'(by omega)).1:Int):=by
    unfold putCells;simp only[Array.getD_eq_getD_getElem?,Array.getElem?_mapIdx];rw[Array.getElem?_eq_getElem hlt];simp only[Option.map_some,Option.getD_some];rw[if_pos (by omega),show off+j-off=j by omega,getElem!_pos d' j (by omega)]
   rw[e4,hx'];have:=(d'[j]'(by omega)).2;exact .int (kq (by simp only[maxLen];omega))
 ·refine List.pairwise_iff_getElem.2 fun i j hi hj hij=>?_
  have:=hs i j (Nat.zero_le _) hij (by simp at hj;omega);simp only[Array.length_toList] at hi hj;rw[getElem!_pos d' j hj,getElem!_pos d' i hi] at this;simp only[ltOf,decide_eq_false_iff_not] at this;simpa using this
end Go.D3
