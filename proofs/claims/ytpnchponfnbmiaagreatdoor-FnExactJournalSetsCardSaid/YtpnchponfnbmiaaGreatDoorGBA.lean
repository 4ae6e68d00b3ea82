/- CONTRACTS: a journal's last state. -/
import Derived.Test.YtpnchponfnbmiaaGreatDoorGAZ
namespace Go.D3
open Go Proofs
set_option maxHeartbeats 4000000
set_option maxRecDepth 100000
theorem Pe{M:List (Option ak)}{a:List Int}{b:List (List Int)}:(ae dW none M).dj [.agg [.vw (ae (.int .i64) 0 a),.vw (ae (ae (.int .i64) 0) [] b)]]=ae dW none (M++[some ⟨a,b⟩]):=kD (f:=dW) (x:=some ⟨a,b⟩)
theorem Pf{L:List ak}{d:ak}:L.map some++[some d]=(L++[d]).map some:=by rw[List.map_append];rfl
theorem Fl{d:ak}:(dW (some d)).cells=[.vw (ints d.sz),.vw (aF d.mp)]:=rfl
theorem some_get{α:Type}{L:List α}{i:Nat}{z:α}(h:i<L.length):(L.map some).getD i none=some (L.getD i z):=by
 rw[List.getD_eq_getElem?_getD,List.getElem?_map,List.getElem?_eq_getElem h,aN h];rfl
theorem abi{α:Type}{f:α->D}{d:α}{l:List α}{k:Nat}{p:Path}:da k p (.vw (ae f d l))=ae f d l:=rfl
attribute [go_sem] Pe Pf Fl abi
def Hs.d(s:aa)(H:Hs):D:=.agg [.int .i64 s.nd,.vw (ints s.fr),.vw (ints s.to),.vw (ae U.d U.zero s.lf),.vw (ae U.d U.zero s.rt),ae dW none (H.dt.map some),ae (ae az.d az.zero) [] H.tx,.int .i64 H.gd]
def Aa:Option (aa×Hs)->D
 | some p=>.al [Hs.d p.1 p.2,.bool true]
 | none=>.al [.agg [.int .i64 0,ints [],ints [],ae U.d U.zero [],ae U.d U.zero [],ae dW none [],ae (ae az.d az.zero) [] [],.int .i64 0],.bool false]
def Nd(t:List UInt8)(rc:D)(gs:List D):Prop:=gs=[]/\∃l,rc=.al l/\∃(s:aa)(n:Int)(b:Bool),l=[aa.d s,.int .i64 n,.bool b]/\b=(eU t).isSome/\∀p,eU t=some p->s=p.1/\n=p.2
theorem Xy(t:List UInt8)(ht:t.length<=4294966000):bK Tryz.prog 93 [.str t] [] (Nd t) :=
 ((Y6 t ht).imp fun _ _ ⟨h1,s,n,b,h2,h3⟩=>⟨h1,_,h2,s,n,b,rfl,h3⟩).view
def EJ(s:aa)(H:Hs):D:=.box [.int .i64 s.nd,ints s.fr,ints s.to,ae U.d U.zero s.lf,ae U.d U.zero s.rt,.o (ae dW none (H.dt.map some)),.o (ae (ae az.d az.zero) [] H.tx),.int .i64 H.gd]
structure OI(s:aa)(t:List UInt8)(R:Hs)(cs:List az)(a i:Nat)(H:Hs):Prop where
 ai:a<=i
 it:i<=t.length
 no:∀j,a<=j->j<i->t.getD j 0≠10
 ok:jq s t H
 ga:H.gd<=a
 c40:cs.length<=40
 run:e8 s t a cs H=R
def DJ:List Nat:=[0,1,4,5,6,7,8,9,10,11,12,13,14,15,16,17]
def Mb:Sl:=ah Tryz.types Tryz.f60 DJ [(0,93),(0,97)]
theorem VB:aC Tryz.prog Tryz.f60 DJ Mb 2=true:=by decide +kernel
theorem Y7(t:List UInt8)(ht:t.length<=5000000):aw Tryz.prog 60 [.v (.str t),.v (.int .i64 1000000)] (Aa (de t)):=by
 refine aK Tryz.func60 VB ?_;unfold Mb ah DJ;simp only[go_sem];refine gP [] false (Xy t (by omega)) ?_;rintro _ _ ⟨rfl,_,rfl,s,n,b,rfl,hb,hp⟩;refine⟨(by repeat(first | exact trivial | refine⟨(fun h=>by cases h),?_⟩)),(fun h=>by cases h),?_⟩;unfold de;cases hh:eU t with
 | none =>
  rw[hh] at hb;replace hb:b=false:=hb;subst hb;simp only[go_sem];rfl
 | some p =>
  rw[hh] at hb;replace hb:b=true:=hb;subst hb;obtain⟨rfl,rfl⟩:=hp p hh;obtain⟨hok,hpl⟩:=yO hh;have hs:=gw (fj hok).1;have h0:=hs.n0;have h8:=hs.n8;have hf8:=hs.f8;simp only[go_sem];refine uQ (Y5 p.1 h0 h8 hf8) rfl (.inl (vX _)) ?_;simp only[go_sem];rw[Option.map_some];refine aE [11,12,13,14,15] (fun(q:List az×Nat×Nat×Hs)=>[(7,EJ p.1 q.2.2.2),(8,.o (ae az.d az.zero q.1)),(9,.int .i64 q.2.1),(10,.int .i64 q.2.2.1)]) (fun q=>OI p.1 t (e8 p.1 t p.2 [] ⟨[dL p.1],[],p.2⟩) q.1 q.2.1 q.2.2.1 q.2.2.2) (fun q=>t.length-q.2.2.1) ([],p.2,p.2,⟨[dL p.1],[],p.2⟩) (by simp only[go_sem];rfl) ⟨Nat.le_refl _,hpl,(fun j h1 h2=>absurd (Nat.lt_of_le_of_lt h1 h2) (Nat.lt_irrefl _)),yS hs hpl,Nat.le_refl _,Nat.zero_le _,rfl⟩ rfl ?_;rintro⟨cs,a,i,H⟩ ⟨hai,hit,hno,hok2,hga,hc40,hrun⟩;simp only at hai hit hno hok2 hga hc40 hrun;unfold EJ;generalize e8 p.1 t p.2 [] ⟨[dL p.1],[],p.2⟩=X at hrun;have h6:=hok2.t6;have hgl:=hok2.gl;have hdl:=hok2.dl;have stop:fD t a=none->X=H:=fun hl=>by rw[<-hrun,mS,hl]
  simp only[go_sem];refine⟨fun h=>?_,fun h=>?_⟩
  ·simp only[Bool.and_eq_true,decide_eq_true_eq] at h
   obtain⟨hi,-⟩:=h;refine⟨hi,fun h1=>⟨(cs,a,i+1,H),⟨by show a<=i+1;omega,hi,fun j j1 j2=>?_,hok2,hga,hc40,hrun⟩,by show t.length-(i+1)<t.length-i;omega,by rw[wrap_small (by omega) (by omega)];rfl⟩,fun h1=>⟨⟨hai,hit⟩,⟨Nat.zero_le _,by omega⟩,?_⟩⟩
   ·by_cases hji:j<i
    ·exact hno j j1 hji
    ·rw[show j=i by simp only at j2;omega]
     intro hc;rw[hc] at h1;cases h1
   ·have hc:t.getD i 0=10:=by
     have hb:=(t.getD i 0).toNat_lt;simp only[bne_eq_false_iff_eq] at h1;exact UInt8.toNat_inj.1 (by show _=10;omega)
    have hl:=He hai hi hc hno;have hll:((t.take i).drop a).length=i-a:=by rw[List.length_drop,List.length_take];omega
    refine an (Y4 (t.take a)) rfl (.inl rfl) ?_;have hck:=uT (t:=t.take a);simp only[go_sem];refine an (tF hck.1 (by omega)) rfl (.inl rfl) ?_;have hit2:=iS hck.1 (by omega);simp only[go_sem];rw[show 101::110::100::32::Lib.itoa (gi 7 (t.take a))=j9 (t.take a) from rfl];have hw1:IntKind.i64.wrap (((H.tx.length+1:Nat):Int)-1)=(H.tx.length:Int):=by rw[wrap_small (by omega) (by omega)];omega
    have hw2:(H.dt.map some).length=H.tx.length+1:=by rw[List.length_map,hdl]
    have hgt:(H.dt.map some).getD H.tx.length none=some H.last:=by
     rw[some_get (z:=ak.zero) (by omega)];unfold Hs.last;rw[hdl,Nat.add_sub_cancel]
    simp only[hw2];simp only[hw1,Int.toNat_natCast,hgt,Fl];simp only[go_sem];refine⟨by simp only[maxLen];omega,fun he=>?_,fun he=>?_⟩
    ·have hall:=Y2 p.1 H.last cs hok hok2.last (by omega)
     have hX:X=match fB p.1 H.last cs with
       | some d=>e8 p.1 t (i+1) [] (H.push d cs (i+1))
       | none=>H:=by
      rw[<-hrun,mS,hl];simp only[if_pos he,hll];rw[show a+(i-a)+1=i+1 by omega];cases fB p.1 H.last cs<;>rfl
     have hlt1:H.tx.length<H.tx.length+1:=Nat.lt_succ_self _;have hcs:(H.tx.length<H.tx.length+1/\0<(dW none).cells.length)/\H.tx.length<H.tx.length+1/\1<(dW none).cells.length:=⟨⟨hlt1,by decide⟩,hlt1,by decide⟩;refine⟨⟨⟨hlt1,hcs,?_⟩,hlt1,hcs,?_⟩,⟨hlt1,hcs,?_⟩,hlt1,hcs,?_⟩
     all_goals(
      refine jB [8] false hall ?_;unfold fB at hX;cases hd:ak.all p.1 H.last cs with
      | none =>
       rw[hd] at hX;replace hX:X=H:=hX;simp only[si,dW];simp only[go_sem];rw[hX];rfl
      | some e =>
       rw[hd,Option.bind_some] at hX;simp only[si];cases hgb:(decide (cs.length<=40)&&e.fJ p.1) with
       | false =>
        rw[hgb,if_neg (by decide)] at hX;replace hX:X=H:=hX;simp only[go_sem,dW];rw[hX];rfl
       | true =>
        rw[hgb,if_pos rfl] at hX;replace hX:X=e8 p.1 t (i+1) [] (H.push e cs (i+1)):=hX;have h5:=FH (x:=t.take a);rw[<-he,hll] at h5;have hpu:jq p.1 t (H.push e cs (i+1)):=hok2.push hs (by unfold fB;rw[hd,Option.bind_some,hgb,if_pos rfl]) (by omega) hi;simp only[go_sem,dW]
        exact⟨by rw[hw2];omega,by omega,([],i+1,i+1,H.push e cs (i+1)),⟨Nat.le_refl _,hi,fun j j1 j2=>absurd (Nat.lt_of_le_of_lt j1 j2) (Nat.lt_irrefl _),hpu,Nat.le_refl _,Nat.zero_le _,hX.symm⟩,by show t.length-(i+1)<t.length-i;omega,by rw[wrap_small (by omega) (by omega)];rfl⟩)
    ·have hX:X=match eR ((t.take i).drop a) with
       | some c=>if cs.length=40 then H else e8 p.1 t (i+1) (cs++[c]) H
       | none=>H:=by
      rw[<-hrun,mS,hl];simp only[if_neg (beq_eq_false_iff_ne.1 he),hll];rw[show a+(i-a)+1=i+1 by omega];cases eR ((t.take i).drop a)<;>rfl
     refine an (Y8 ((t.take i).drop a) (by omega)) rfl (.inl (E2 _)) ?_;cases hcg:eR ((t.take i).drop a) with
     | none =>
      rw[hcg] at hX;replace hX:X=H:=hX;simp only[oU];simp only[go_sem];rw[hX];rfl
     | some c =>
      rw[hcg] at hX;simp only[oU];simp only[go_sem];refine⟨fun h4=>?_,fun h4=>?_⟩
      ·try simp only[ge_iff_le,decide_eq_true_eq] at h4
       replace hX:X=H:=by rw[hX];exact if_pos (by omega)
       rw[hX];rfl
      ·try simp only[ge_iff_le,decide_eq_false_iff_not] at h4
       replace hX:X=e8 p.1 t (i+1) (cs++[c]) H:=by rw[hX];exact if_neg (by omega)
       exact⟨by omega,(cs++[c],i+1,i+1,H),⟨Nat.le_refl _,hi,fun j j1 j2=>absurd (Nat.lt_of_le_of_lt j1 j2) (Nat.lt_irrefl _),hok2,by show H.gd<=i+1;omega,by show(cs++[c]).length<=40;rw[List.length_append];simp only[List.length_cons,List.length_nil];omega,hX.symm⟩,by show t.length-(i+1)<t.length-i;omega,by rw[wrap_small (by omega) (by omega)];rfl⟩
  ·have hn:i=t.length:=by
    simp only[Bool.and_eq_false_iff,decide_eq_false_iff_not] at h;omega
   rw[stop (Hd fun j j1 j2=>hno j j1 (by omega))];rfl
end Go.D3
namespace Go.D3
open Go Proofs
set_option maxHeartbeats 4000000
set_option maxRecDepth 100000
theorem Rd.uq{w:World}{A:Nat->Prop}{v:Value}{d:D}(h:Rd w A v (.vw d)):Rd w A v d:=by
 cases h with
 | vw h=>exact h
theorem Rd.Pg{w:World}{A:Nat->Prop}{v:Value}{L:List ak}(h:Rd w A v (ae dW none (L.map some))):Rd w A v (ae ak.d ak.zero L):=by
 have hcell:∀(e:ak)(k:Nat)(x:D),(ak.d e).cells[k]?=some x->(dW (some e)).cells[k]?=some (.vw x):=fun e k x hx=>by
  match k,hx with
  | 0,hx=>cases hx;rfl
  | 1,hx=>cases hx;rfl
 have key:∀{sz j:Nat}{x:D},cellAt (L.map ak.d) sz j=some x->cellAt ((L.map some).map dW) sz j=some (.vw x):=fun {sz j x} hx=>by
  unfold cellAt at hx|-
  rw[List.getElem?_map] at hx;rw[List.map_map,List.getElem?_map];cases hq:L[j / sz]? with
  | none=>rw[hq] at hx;cases hx
  | some r =>
   rw[hq] at hx;simp only[Option.map_some,Option.bind_some,Function.comp] at hx|-
   exact hcell r _ x hx
 generalize hd:ae dW none (L.map some)=d at h;cases h<;>simp only[ae,D.slice.injEq,reduceCtorEq] at hd
 case nil=>obtain⟨_,h2⟩:=hd;cases L with | nil=>exact .nil | cons a b=>simp at h2
 case empty hm=>obtain⟨_,h2⟩:=hd;cases L with | nil=>exact .empty hm | cons a b=>simp at h2
 case slice hA hc hm hz hzz hsz vs hcells hr =>
  obtain⟨rfl,rfl⟩:=hd;rw[List.length_map,List.length_map] at hc|-
  rw[show L.length=(L.map ak.d).length by rw[List.length_map]]
  exact .slice (z:=ak.d ak.zero) hA (by rw[List.length_map];exact hc) hm hz hzz (fun x hx=>by
   obtain⟨r,hr',rfl⟩:=List.mem_map.1 hx
   exact hsz (dW (some r)) (List.mem_map.2 ⟨some r,List.mem_map.2 ⟨r,hr',rfl⟩,rfl⟩)) vs (fun j x hx=>hcells j _ (key hx)) fun j x hx=>by
    exact(hr j _ (key hx)).uq
def Hs.pl(s:aa)(H:Hs):D:=bZ.d ⟨s,H.dt,H.tx,H.gd⟩
theorem Rd.hs{w:World}{A:Nat->Prop}{v:Value}{s:aa}{H:Hs}(h:Rd w A v (Hs.d s H)):Rd w A v (Hs.pl s H):=by
 unfold Hs.d at h;generalize hd:([.int .i64 s.nd,.vw (ints s.fr),.vw (ints s.to),.vw (ae U.d U.zero s.lf),.vw (ae U.d U.zero s.rt),ae dW none (H.dt.map some),ae (ae az.d az.zero) [] H.tx,.int .i64 H.gd]:List D)=l at h;cases h with
 | agg hs hr =>
  subst hd;refine .agg hs fun j x hx=>?_
  match j,hx with
  | 0,hx=>cases hx;exact hr 0 _ rfl
  | 1,hx=>cases hx;exact(hr 1 _ rfl).uq
  | 2,hx=>cases hx;exact(hr 2 _ rfl).uq
  | 3,hx=>cases hx;exact(hr 3 _ rfl).uq
  | 4,hx=>cases hx;exact(hr 4 _ rfl).uq
  | 5,hx=>cases hx;exact(hr 5 _ rfl).Pg
  | 6,hx=>cases hx;exact hr 6 _ rfl
  | 7,hx=>cases hx;exact hr 7 _ rfl
def we:Option (aa×Hs)->D
 | some p=>.al [Hs.pl p.1 p.2,.bool true]
 | none=>.al [bZ.d bZ.zero,.bool false]
theorem Rd.iA{w:World}{A:Nat->Prop}{v:Value}{o:Option (aa×Hs)}(h:Rd w A v (Aa o)):Rd w A v (we o):=by
 cases o with
 | none=>exact h
 | some p =>
  unfold Aa at h;generalize hd:([Hs.d p.1 p.2,.bool true]:List D)=l at h;cases h with
  | al hs hr =>
   subst hd;refine .al hs fun j x hx=>?_
   match j,hx with
   | 0,hx=>cases hx;exact(hr 0 _ rfl).hs
   | 1,hx=>cases hx;exact hr 1 _ rfl
theorem aw.abf{P:Program}{f:FuncId}{xs:List D}{res res':D}(hb:eQ P f=true)(hx:∀x∈xs,x.refs dD)(hr:res'.cn=true)(hR:∀(w:World)(A:Nat->Prop)(v:Value),Rd w A v res->Rd w A v res')(h:aw P f (xs.map .v) res):fK P f xs [] res' []:=by
 refine⟨hb,fun w A vs gv Fs h0 h1 h2 h3 h4 h5 h6 h7=>(h w A vs (fun _ _=>False) h0 h1 (by simpa using h2) (fun j a ha=>?_) (fun _ _ _ _ h=>h.elim) (fun _ _ h=>h.elim)).mono ?_⟩
 ·rw[List.getElem?_map,Option.map_eq_some_iff] at ha
  obtain⟨d,hd,rfl⟩:=ha;exact⟨lV (h3 j d hd) (hx d (List.mem_of_getElem? hd)),fun _ h=>h⟩
 ·rintro e w' ⟨v,F,Fs',he,hsz,hown,_,hF,_,_,hsame,hos⟩
  refine⟨_,_,v,fun _=>False,gv,fun _ _=>False,⟨rfl,rfl⟩,he,hsz,(n9 hr).2 (.rd (hR _ _ _ (Ad hown fun b hb=>⟨(hF b hb).1,(hF b hb).2.1.elim id fun⟨_,hj⟩=>hj.elim⟩))),fun _ _ h=>h,fun _=>Pl.dead,fun _ _ _ h=>h,fun _ _=>rfl,fun _ h=>h.elim,fun _ _ h=>h.elim,fun _ _ _ _ h=>h.elim,fun b hb _=>hsame b hb fun _ h=>h,hos⟩
theorem Yu(t:List UInt8)(ht:t.length<=5000000):fK Tryz.prog 60 [.str t,.int .i64 1000000] [] (we (de t)) [] :=
 aw.abf (xs:=[.str t,.int .i64 1000000]) (by decide +kernel) (fun x hx=>by simp at hx;rcases hx with rfl | rfl<;>trivial) (by cases de t<;>rfl) (fun _ _ _ h=>h.iA) (Y7 t ht)
def DI:List Nat:=[0,2,1]
def Ma:Sl:=ah Tryz.types Tryz.f63 DI []
theorem VA:aC Tryz.prog Tryz.f63 DI Ma 1=true:=by decide +kernel
end Go.D3
namespace Go.D3
open Go
set_option maxHeartbeats 4000000
set_option maxRecDepth 100000
def bZ.of(s:aa)(H:Hs):bZ:=⟨s,H.dt,H.tx,H.gd⟩
theorem QN{s:aa}{H:Hs}:(bZ.of s H).dt.getD ((bZ.of s H).dt.length-1) ak.zero=H.last:=rfl
end Go.D3
namespace Go.D3
open Go Proofs
set_option maxRecDepth 100000
set_option maxHeartbeats 4000000
theorem Td{s:aa}(hs:di s):(dL s).fJ s=true:=by
 have hd:=HK hs
 have hrow:s.fV (dL s).sz (dL s).mp=true:=by
  unfold aa.fV;simp only[Bool.and_eq_true,beq_iff_eq,List.all_eq_true,List.mem_range];refine⟨⟨⟨hd.nd,?_⟩,hd.mp⟩,fun e he=>?_⟩
  ·unfold bQ dL
   rw[List.all_eq_true];intro x hx;rw[(List.mem_replicate.1 hx).2];rfl
  ·unfold aa.lC dL
   simp only[rF];rfl
 have hbr:s.brk (dL s).sz (dL s).mp s.lf.length=none:=by
  unfold aa.brk;rw[List.findSome?_eq_none_iff];intro i _;unfold dL qz;simp only[rF];rfl
 unfold ak.fJ;rw[hrow,hbr];rfl
theorem QO{t:List UInt8}{p:aa×Hs}(h:de t=some p):p.2.last.fJ p.1=true:=by
 obtain⟨ho,hk⟩:=wG h;have hc:=Xt h;have hs:=gw (fj ho).1;have h2:=hc.dl;rcases Nat.eq_zero_or_pos p.2.tx.length with h1 | h1
 ·have h3:p.2.last=dL p.1:=by
   unfold Hs.last;rw[show p.2.dt.length-1=0 by omega];exact hc.d0
  rw[h3];exact Td hs
 ·have h3:=hc.st (p.2.tx.length-1) (by omega)
  have h4:p.2.dt.getD (p.2.tx.length-1+1) ak.zero=p.2.last:=by
   unfold Hs.last;rw[show p.2.dt.length-1=p.2.tx.length-1+1 by omega]
  rw[h4] at h3;exact(yM h3).2.2
theorem Ym(x:bZ)(h : 0<x.dt.length)(hl:x.dt.length<=4294966000):aw Tryz.prog 63 [.v (bZ.d x)] (dW (some (x.dt.getD (x.dt.length-1) ak.zero))):=by
 have hw:IntKind.i64.wrap ((x.dt.length:Int)-1)=((x.dt.length-1:Nat):Int):=by rw[wrap_small (by omega) (by omega)];omega
 refine aK Tryz.func63 VA ?_;unfold Ma ah DI;simp only[go_sem];rw[hw];exact⟨⟨by omega,by omega⟩,rfl⟩
end Go.D3
