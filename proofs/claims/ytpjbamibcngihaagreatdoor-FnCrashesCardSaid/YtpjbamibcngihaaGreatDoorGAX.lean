/- CONTRACTS: a journal is opened, the reference's side. -/
import Derived.Test.YtpjbamibcngihaaGreatDoorGAU
namespace Go.D3
open Go
set_option maxHeartbeats 4000000
set_option maxRecDepth 100000
theorem Mv{M:List (Option af)}{a:List Int}{b:List (List Int)}:(ae dD none M).dQ [.agg [.vw (ae (.int .i64) 0 a),.vw (ae (ae (.int .i64) 0) [] b)]]=ae dD none (M++[some ⟨a,b⟩]):=mz (f:=dD) (x:=some ⟨a,b⟩)
theorem Mw{L:List af}{d:af}:L.map some++[some d]=(L++[d]).map some:=by rw[List.map_append];rfl
theorem DO{d:af}:(dD (some d)).cells=[.vw (ints d.sz),.vw (aI d.mp)]:=rfl
theorem some_get{α:Type}{L:List α}{i:Nat}{z:α}(h:i<L.length):(L.map some).getD i none=some (L.getD i z):=by
 rw[List.getD_eq_getElem?_getD,List.getElem?_map,List.getElem?_eq_getElem h,aS h];rfl
theorem Xo{α:Type}{f:α->D}{d:α}{l:List α}{k:Nat}{p:Path}:di k p (.vw (ae f d l))=ae f d l:=rfl
attribute [go_sem] Mv Mw DO Xo
def Hs.d(s:aa)(H:Hs):D:=.agg [.int .i64 s.nd,.vw (ints s.fr),.vw (ints s.to),.vw (ae U.d U.zero s.lf),.vw (ae U.d U.zero s.rt),ae dD none (H.dt.map some),ae (ae ah.d ah.zero) [] H.tx,.int .i64 H.gd]
def yH:Option (aa×Hs)->D
 | some p=>.au [Hs.d p.1 p.2,.bool true]
 | none=>.au [.agg [.int .i64 0,ints [],ints [],ae U.d U.zero [],ae U.d U.zero [],ae dD none [],ae (ae ah.d ah.zero) [] [],.int .i64 0],.bool false]
def Lh(t:List UInt8)(rc:D)(gs:List D):Prop:=gs=[]/\∃l,rc=.au l/\∃(s:aa)(n:Int)(b:Bool),l=[aa.d s,.int .i64 n,.bool b]/\b=(cL t).isSome/\∀p,cL t=some p->s=p.1/\n=p.2
theorem Ue(t:List UInt8)(ht:t.length<=4294966000):bM Go.Proofs.Tryz.prog 53 [.str t] [] (Lh t) :=
 ((Vh t ht).imp fun _ _ ⟨h1,s,n,b,h2,h3⟩=>⟨h1,_,h2,s,n,b,rfl,h3⟩).view
def Df(s:aa)(H:Hs):D:=.box [.int .i64 s.nd,ints s.fr,ints s.to,ae U.d U.zero s.lf,ae U.d U.zero s.rt,.o (ae dD none (H.dt.map some)),.o (ae (ae ah.d ah.zero) [] H.tx),.int .i64 H.gd]
structure OI(s:aa)(t:List UInt8)(R:Hs)(cs:List ah)(a i:Nat)(H:Hs):Prop where
 ai:a<=i
 it:i<=t.length
 no:∀j,a<=j->j<i->t.getD j 0≠10
 ok:fU s t H
 ga:H.gd<=a
 c40:cs.length<=40
 run:dh s t a cs H=R
def Cd:List Nat:=[0,1,4,5,6,7,8,9,10,11,12,13,14,15,16,17]
def Kb:Sl:=ak Go.Proofs.Tryz.types Go.Proofs.Tryz.f28 Cd [(0,41),(0,53)]
theorem Sw:aF Go.Proofs.Tryz.prog Go.Proofs.Tryz.f28 Cd Kb 2=true:=by decide +kernel
theorem Vk(t:List UInt8)(ht:t.length<=5000000):aC Go.Proofs.Tryz.prog 28 [.v (.str t),.v (.int .i64 1000000)] (yH (bn t)):=by
 refine aQ Go.Proofs.Tryz.func28 Sw ?_;unfold Kb ak Cd;simp only[go_sem];refine bf [] false (Ue t (by omega)) ?_;rintro _ _ ⟨rfl,_,rfl,s,n,b,rfl,hb,hp⟩;refine⟨(by repeat(first | exact trivial | refine⟨(fun h=>by cases h),?_⟩)),(fun h=>by cases h),?_⟩;unfold bn;cases hh:cL t with
 | none =>
  rw[hh] at hb;replace hb:b=false:=hb;subst hb;simp only[go_sem];rfl
 | some p =>
  rw[hh] at hb;replace hb:b=true:=hb;subst hb;obtain⟨rfl,rfl⟩:=hp p hh;obtain⟨hok,hpl⟩:=xt hh;have hs:=eA (dM hok).1;have h0:=hs.n0;have h8:=hs.n8;have hf8:=hs.f8;simp only[go_sem];refine wM (Vg p.1 h0 h8 hf8) rfl (.inl (rk _)) ?_;simp only[go_sem];rw[Option.map_some];refine aE [11,12,13,14,15] (fun(q:List ah×Nat×Nat×Hs)=>[(7,Df p.1 q.2.2.2),(8,.o (ae ah.d ah.zero q.1)),(9,.int .i64 q.2.1),(10,.int .i64 q.2.2.1)]) (fun q=>OI p.1 t (dh p.1 t p.2 [] ⟨[bW p.1],[],p.2⟩) q.1 q.2.1 q.2.2.1 q.2.2.2) (fun q=>t.length-q.2.2.1) ([],p.2,p.2,⟨[bW p.1],[],p.2⟩) (by simp only[go_sem];rfl) ⟨Nat.le_refl _,hpl,(fun j h1 h2=>absurd (Nat.lt_of_le_of_lt h1 h2) (Nat.lt_irrefl _)),xy hs hpl,Nat.le_refl _,Nat.zero_le _,rfl⟩ rfl ?_;rintro⟨cs,a,i,H⟩ ⟨hai,hit,hno,hok2,hga,hc40,hrun⟩;simp only at hai hit hno hok2 hga hc40 hrun;unfold Df;generalize dh p.1 t p.2 [] ⟨[bW p.1],[],p.2⟩=X at hrun;have h6:=hok2.t6;have hgl:=hok2.gl;have hdl:=hok2.dl;have stop:dk t a=none->X=H:=fun hl=>by rw[<-hrun,ia,hl]
  simp only[go_sem];refine⟨fun h=>?_,fun h=>?_⟩
  ·simp only[Bool.and_eq_true,decide_eq_true_eq] at h
   obtain⟨hi,-⟩:=h;refine⟨hi,fun h1=>⟨(cs,a,i+1,H),⟨by show a<=i+1;omega,hi,fun j j1 j2=>?_,hok2,hga,hc40,hrun⟩,by show t.length-(i+1)<t.length-i;omega,by rw[wrap_small (by omega) (by omega)];rfl⟩,fun h1=>⟨⟨hai,hit⟩,⟨Nat.zero_le _,by omega⟩,?_⟩⟩
   ·by_cases hji:j<i
    ·exact hno j j1 hji
    ·rw[show j=i by simp only at j2;omega]
     intro hc;rw[hc] at h1;cases h1
   ·have hc:t.getD i 0=10:=by
     have hb:=(t.getD i 0).toNat_lt;simp only[bne_eq_false_iff_eq] at h1;exact UInt8.toNat_inj.1 (by show _=10;omega)
    have hl:=tU hai hi hc hno;have hll:((t.take i).drop a).length=i-a:=by rw[List.length_drop,List.length_take];omega
    refine av (H3 (t.take a)) rfl (.inl rfl) ?_;have hck:=jY (t:=t.take a);simp only[go_sem];refine av (kD hck.1 (by omega)) rfl (.inl rfl) ?_;have hit2:=fc hck.1 (by omega);simp only[go_sem];rw[show 101::110::100::32::Lib.itoa (fK 7 (t.take a))=cR (t.take a) from rfl];have hw1:IntKind.i64.wrap (((H.tx.length+1:Nat):Int)-1)=(H.tx.length:Int):=by rw[wrap_small (by omega) (by omega)];omega
    have hw2:(H.dt.map some).length=H.tx.length+1:=by rw[List.length_map,hdl]
    have hgt:(H.dt.map some).getD H.tx.length none=some H.last:=by
     rw[some_get (z:=af.zero) (by omega)];unfold Hs.last;rw[hdl,Nat.add_sub_cancel]
    simp only[hw2];simp only[hw1,Int.toNat_natCast,hgt,DO];simp only[go_sem];refine⟨by simp only[maxLen];omega,fun he=>?_,fun he=>?_⟩
    ·have hall:=Vf p.1 H.last cs hok hok2.last (by omega)
     have hX:X=match ca p.1 H.last cs with
       | some d=>dh p.1 t (i+1) [] (H.push d cs (i+1))
       | none=>H:=by
      rw[<-hrun,ia,hl];simp only[if_pos he,hll];rw[show a+(i-a)+1=i+1 by omega];cases ca p.1 H.last cs<;>rfl
     have hlt1:H.tx.length<H.tx.length+1:=Nat.lt_succ_self _;have hcs:(H.tx.length<H.tx.length+1/\0<(dD none).cells.length)/\H.tx.length<H.tx.length+1/\1<(dD none).cells.length:=⟨⟨hlt1,by decide⟩,hlt1,by decide⟩;refine⟨⟨⟨hlt1,hcs,?_⟩,hlt1,hcs,?_⟩,⟨hlt1,hcs,?_⟩,hlt1,hcs,?_⟩
     all_goals(
      refine en [8] false hall ?_;unfold ca at hX;cases hd:af.all p.1 H.last cs with
      | none =>
       rw[hd] at hX;replace hX:X=H:=hX;simp only[jT,dD];simp only[go_sem];rw[hX];rfl
      | some e =>
       rw[hd,Option.bind_some] at hX;simp only[jT];cases hgb:(decide (cs.length<=40)&&e.dP p.1) with
       | false =>
        rw[hgb,if_neg (by decide)] at hX;replace hX:X=H:=hX;simp only[go_sem,dD];rw[hX];rfl
       | true =>
        rw[hgb,if_pos rfl] at hX;replace hX:X=dh p.1 t (i+1) [] (H.push e cs (i+1)):=hX;have h5:=D4 (x:=t.take a);rw[<-he,hll] at h5;have hpu:fU p.1 t (H.push e cs (i+1)):=hok2.push hs (by unfold ca;rw[hd,Option.bind_some,hgb,if_pos rfl]) (by omega) hi;simp only[go_sem,dD]
        exact⟨by rw[hw2];omega,by omega,([],i+1,i+1,H.push e cs (i+1)),⟨Nat.le_refl _,hi,fun j j1 j2=>absurd (Nat.lt_of_le_of_lt j1 j2) (Nat.lt_irrefl _),hpu,Nat.le_refl _,Nat.zero_le _,hX.symm⟩,by show t.length-(i+1)<t.length-i;omega,by rw[wrap_small (by omega) (by omega)];rfl⟩)
    ·have hX:X=match dR ((t.take i).drop a) with
       | some c=>if cs.length=40 then H else dh p.1 t (i+1) (cs++[c]) H
       | none=>H:=by
      rw[<-hrun,ia,hl];simp only[if_neg (beq_eq_false_iff_ne.1 he),hll];rw[show a+(i-a)+1=i+1 by omega];cases dR ((t.take i).drop a)<;>rfl
     refine av (Vl ((t.take i).drop a) (by omega)) rfl (.inl (Dy _)) ?_;cases hcg:dR ((t.take i).drop a) with
     | none =>
      rw[hcg] at hX;replace hX:X=H:=hX;simp only[nF];simp only[go_sem];rw[hX];rfl
     | some c =>
      rw[hcg] at hX;simp only[nF];simp only[go_sem];refine⟨fun h4=>?_,fun h4=>?_⟩
      ·try simp only[ge_iff_le,decide_eq_true_eq] at h4
       replace hX:X=H:=by rw[hX];exact if_pos (by omega)
       rw[hX];rfl
      ·try simp only[ge_iff_le,decide_eq_false_iff_not] at h4
       replace hX:X=dh p.1 t (i+1) (cs++[c]) H:=by rw[hX];exact if_neg (by omega)
       exact⟨by omega,(cs++[c],i+1,i+1,H),⟨Nat.le_refl _,hi,fun j j1 j2=>absurd (Nat.lt_of_le_of_lt j1 j2) (Nat.lt_irrefl _),hok2,by show H.gd<=i+1;omega,by show(cs++[c]).length<=40;rw[List.length_append];simp only[List.length_cons,List.length_nil];omega,hX.symm⟩,by show t.length-(i+1)<t.length-i;omega,by rw[wrap_small (by omega) (by omega)];rfl⟩
  ·have hn:i=t.length:=by
    simp only[Bool.and_eq_false_iff,decide_eq_false_iff_not] at h;omega
   rw[stop (xP fun j j1 j2=>hno j j1 (by omega))];rfl
end Go.D3
