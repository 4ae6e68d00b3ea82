/- CALLS with pointers to the first part of a struct. -/
import Derived.Test.YtpjbamibcngihaaGreatDoorGAT
import Derived.Test.YtpjbamibcngihaaGreatDoorGAG
import Derived.Test.YtpjbamibcngihaaGreatDoorHG
namespace Go.D3
open Go
def dk(t:List UInt8)(a:Nat):Option (List UInt8):=if(Lib.cut (t.drop a) [10]).2.2=true then some (Lib.cut (t.drop a) [10]).1 else none
theorem rf{t:List UInt8}{a:Nat}:(∃i,a<=i/\i<t.length/\t.getD i 0=10/\∀j,a<=j->j<i->t.getD j 0≠10)\/∀j,a<=j->j<t.length->t.getD j 0≠10:=by
 by_cases h:∃i,a<=i/\i<t.length/\t.getD i 0=10
 ·refine .inl ?_
  obtain⟨i,hi⟩:=h;induction i using Nat.strongRecOn with
  | _ i ih =>
   by_cases hj:∃j,a<=j/\j<i/\t.getD j 0=10
   ·obtain⟨j,h1,h2,h3⟩:=hj
    exact ih j h2 ⟨h1,by omega,h3⟩
   ·exact⟨i,hi.1,hi.2.1,hi.2.2,fun j h1 h2 h3=>hj ⟨j,h1,h2,h3⟩⟩
 ·exact .inr fun j h1 h2 h3=>h ⟨j,h1,h2,h3⟩
theorem xo{t:List UInt8}{a j:Nat}:(t.drop a).getD j 0=t.getD (a+j) 0:=by rw[List.getD_eq_getElem?_getD,List.getElem?_drop,<-List.getD_eq_getElem?_getD]
theorem Mr{t:List UInt8}{a i:Nat}(ha:a<=i)(hi:i<t.length)(hc:t.getD i 0=10)(h:∀j,a<=j->j<i->t.getD j 0≠10):Lib.cut (t.drop a) [10]=((t.take i).drop a,t.drop (i+1),true):=by
 rw[nH (i:=i-a) (fun j hj=>by rw[xo];exact h _ (by omega) (by omega)) (by rw[List.length_drop];omega) (by rw[xo,show a+(i-a)=i by omega];exact hc),List.drop_drop,show a+(i-a+1)=i+1 by omega,List.drop_take]
theorem tU{t:List UInt8}{a i:Nat}(ha:a<=i)(hi:i<t.length)(hc:t.getD i 0=10)(h:∀j,a<=j->j<i->t.getD j 0≠10):dk t a=some ((t.take i).drop a):=by
 unfold dk;rw[Mr ha hi hc h];rfl
theorem xP{t:List UInt8}{a:Nat}(h:∀j,a<=j->j<t.length->t.getD j 0≠10):dk t a=none:=by
 unfold dk;rw[qJ fun j hj=>by rw[List.length_drop] at hj;rw[xo];exact h _ (by omega) (by omega)];rfl
theorem gE{t:List UInt8}{a:Nat}{l:List UInt8}(h:dk t a=some l):a+l.length<t.length:=by
 rcases rf (t:=t) (a:=a) with⟨i,h1,h2,h3,h4⟩ | hn
 ·rw[tU h1 h2 h3 h4] at h
  injection h with h
  rw[<-h,List.length_drop,List.length_take];omega
 ·rw[xP hn] at h;cases h
def gO(t:List UInt8)(a:Nat)(cs:List ah):Option (List ah×Nat) :=
 match _h:dk t a with
 | none=>none
 | some l=>if l=cR (t.take a) then some (cs,a+l.length+1) else match dR l with
  | some c=>if cs.length=40 then none else gO t (a+l.length+1) (cs++[c])
  | none=>none
termination_by t.length-a
decreasing_by have:=gE (by assumption);omega
structure Hs where
 dt:List af
 tx:List (List ah)
 gd:Nat
def Hs.last(H:Hs):af:=H.dt.getD (H.dt.length-1) af.zero
def Hs.push(H:Hs)(d:af)(l:List ah)(e:Nat):Hs:=⟨H.dt++[d],H.tx++[l],e⟩
def ca(s:aa)(d:af)(l:List ah):Option af:=(af.all s d l).bind fun e=>if(decide (l.length<=40)&&e.dP s)=true then some e else none
def dh(s:aa)(t:List UInt8)(a:Nat)(cs:List ah)(H:Hs):Hs :=
 match _h:dk t a with
 | none=>H
 | some l=>if l=cR (t.take a) then(match ca s H.last cs with
   | some d=>dh s t (a+l.length+1) [] (H.push d cs (a+l.length+1))
   | none=>H) else match dR l with
  | some c=>if cs.length=40 then H else dh s t (a+l.length+1) (cs++[c]) H
  | none=>H
termination_by t.length-a
decreasing_by all_goals have:=gE (by assumption);omega
theorem iE{t:List UInt8}{a:Nat}{cs:List ah}:gO t a cs=(dk t a).bind fun l=>if l=cR (t.take a) then some (cs,a+l.length+1) else(dR l).bind fun c=>if cs.length=40 then none else gO t (a+l.length+1) (cs++[c]):=by
 rw[gO];split
 ·rename_i h;rw[h];rfl
 ·rename_i l h
  rw[h,Option.bind_some];congr 1;cases dR l<;>rfl
theorem ia{s:aa}{t:List UInt8}{a:Nat}{cs:List ah}{H:Hs}:dh s t a cs H=match dk t a with
  | none=>H
  | some l=>if l=cR (t.take a) then(match ca s H.last cs with
   | some d=>dh s t (a+l.length+1) [] (H.push d cs (a+l.length+1))
   | none=>H) else match dR l with
   | some c=>if cs.length=40 then H else dh s t (a+l.length+1) (cs++[c]) H
   | none=>H:=by
 conv=>lhs;rw[dh]
 split
 ·rename_i h;rw[h]
 ·rename_i l h;rw[h]
theorem pY{s:aa}{t:List UInt8}{H:Hs}:∀(k a:Nat)(cs:List ah),t.length-a<=k->dh s t a cs H=match gO t a cs with
  | none=>H
  | some (l,e)=>match ca s H.last l with
   | some d=>dh s t e [] (H.push d l e)
   | none=>H:=by
 intro k;induction k with
 | zero =>
  intro a cs h;rw[ia,iE];cases hl:dk t a with
  | none=>rfl
  | some l=>have:=gE hl;omega
 | succ k ih =>
  intro a cs h;rw[ia,iE];cases hl:dk t a with
  | none=>rfl
  | some l =>
   have:=gE hl;rw[Option.bind_some];by_cases he:l=cR (t.take a)
   ·simp only[if_pos he]
   ·simp only[if_neg he]
    cases hc:dR l with
    | none=>rfl
    | some c =>
     simp only[Option.bind_some];by_cases h40:cs.length=40
     ·rw[if_pos h40,if_pos h40]
     ·rw[if_neg h40,if_neg h40,ih _ _ (by omega)]
theorem vE{t:List UInt8}:∀(k a:Nat)(cs:List ah),t.length-a<=k->cs.length<=40->∀l e,gO t a cs=some (l,e)->l.length<=40/\a+6<=e/\e<=t.length:=by
 intro k;induction k with
 | zero =>
  intro a cs h _ l e he;rw[iE] at he;cases hl:dk t a with
  | none=>rw[hl] at he;cases he
  | some l=>have:=gE hl;omega
 | succ k ih =>
  intro a cs h h40 l e he;rw[iE] at he;cases hl:dk t a with
  | none=>rw[hl] at he;cases he
  | some ln =>
   have:=gE hl;rw[hl,Option.bind_some] at he;split at he
   ·rename_i hx
    simp only[Option.some.injEq,Prod.mk.injEq] at he;obtain⟨rfl,rfl⟩:=he
    have hp : 5<=ln.length:=by
     rw[hx];have:=(tJ (jY (t:=t.take a)).1).2;have:=List.length_pos_iff.2 this;unfold cR;simp only[List.length_append,List.length_cons,List.length_nil];omega
    exact⟨h40,by omega,by omega⟩
   ·cases hc:dR ln with
    | none=>rw[hc] at he;cases he
    | some c =>
     rw[hc,Option.bind_some] at he;split at he
     ·cases he
     ·rename_i hn
      have:=ih _ _ (by omega) (by rw[List.length_append];simp;omega) l e he;omega
end Go.D3
namespace Go.D3
open Go
set_option maxHeartbeats 4000000
set_option maxRecDepth 100000
def sa:Option (List ah×Nat)->D
 | some (l,e)=>.au [ae ah.d ah.zero l,.int .i64 e,.bool true]
 | none=>.au [ae ah.d ah.zero [],.int .i64 0,.bool false]
theorem W4(o:Option (List ah×Nat)):(sa o).ba=true:=by
 cases o<;>simp only[sa,D.ba,cB,kr yf,Bool.and_self]
def AR:List Nat:=[0,1,4,5,6,7,8,10,11,12]
def IQ:Sl:=ak Go.Proofs.Tryz.types Go.Proofs.Tryz.f87 AR []
theorem QX:aF Go.Proofs.Tryz.prog Go.Proofs.Tryz.f87 AR IQ 2=true:=by decide +kernel
theorem Uv(t:List UInt8)(a0:Nat)(ht:t.length<=4294966000)(ha0:a0<=t.length):aC Go.Proofs.Tryz.prog 87 [.v (.str t),.v (.int .i64 a0)] (sa (gO t a0 [])):=by
 refine aQ Go.Proofs.Tryz.func87 QX ?_;unfold IQ ak AR;simp only[go_sem];refine aE [6,7,8,9] (fun(p:Nat×List ah)=>[(1,.int .i64 p.1),(5,.o (ae ah.d ah.zero p.2))]) (fun p=>p.1<=t.length/\p.2.length<=40/\gO t p.1 p.2=gO t a0 []) (fun p=>t.length-p.1) (a0,[]) (by simp only[go_sem];rfl) ⟨ha0,Nat.zero_le _,rfl⟩ rfl ?_;rintro⟨a,cs⟩ ⟨ha,h40,hx⟩;simp only at ha h40 hx;rw[<-hx];rw[iE] at hx|-
 simp only[go_sem];refine⟨⟨ha,Nat.le_refl _⟩,?_⟩;rw[List.take_of_length_le (Nat.le_refl _)];refine av (rL (by rw[List.length_drop];omega)) rfl (.inl rfl) ?_;have hla:dk t a=if(Lib.cut (t.drop a) [10]).2.2=true then some (Lib.cut (t.drop a) [10]).1 else none:=rfl
 generalize Lib.cut (t.drop a) [10]=c at hla;simp only[go_sem];refine⟨fun h=>?_,fun h=>⟨⟨by omega,by omega⟩,?_⟩⟩
 ·have h:c.2.2=false:=by simpa using h
  rw[hla,if_neg (by rw[h];decide)];rfl
 ·have h:c.2.2=true:=by simpa using h
  rw[if_pos h] at hla;have hlt:=gE hla;rw[hla,Option.bind_some] at hx|-
  refine av (HC _) rfl (.inl rfl) ?_;simp only[go_sem];refine av kE rfl (.inl rfl) ?_;simp only[go_sem];have hk:=jY (t:=t.take a);have:=fc hk.1 (by omega);have hend:cR (t.take a)=101::110::100::32::Lib.itoa (fK 7 (t.take a)):=rfl;refine⟨by simp only[maxLen];omega,fun h1=>?_,fun h1=>?_⟩
  ·rw[if_pos (by rw[hend];exact h1),wrap_small (n:=(a:Int)+c.1.length) (by omega) (by omega),wrap_small (by omega) (by omega)]
   rfl
  ·have hne:¬c.1=cR (t.take a):=by rw[hend];simpa using h1
   rw[if_neg hne] at hx|-
   refine av (Uy c.1 (by omega)) rfl (.inl (Dy _)) ?_;cases hc:dR c.1 with
   | none =>
    simp only[nF];simp only[go_sem];rfl
   | some x =>
    rw[hc,Option.bind_some] at hx;simp only[nF];simp only[go_sem];refine⟨fun h2=>by rw[if_pos (by omega)];rfl,fun h2=>⟨by omega,(a+c.1.length+1,cs++[x]),⟨by show a+c.1.length+1<=_;omega,?_,?_⟩,by show t.length-(a+c.1.length+1)<_;omega,?_⟩⟩
    all_goals have h2:cs.length≠40:=by rintro h3;rw[h3] at h2;cases h2
    ·show(cs++[x]).length<=40
     simp only[List.length_append,List.length_cons,List.length_nil];omega
    ·rw[if_neg h2]
    ·rw[wrap_small (n:=(c.1.length:Int)+1) (by omega) (by omega),wrap_small (by omega) (by omega)]
     show _=[_,D.int .i64 ((a+c.1.length+1:Nat):Int),_,_,_,_,_,_,_,_];rw[show(a:Int)+((c.1.length:Int)+1)=((a+c.1.length+1:Nat):Int) by omega]
end Go.D3
namespace Go.D3
open Go
theorem CO{s:aa}(hs:cQ s):∀{l:List ah}{d e:af},br s d->af.all s d l=some e->br s e
 | [],d,e,h,ha=>by cases ha;exact h
 | c::l,d,e,h,ha=>by
  rw[af.all] at ha;split at ha
  ·rename_i hc
   exact CO hs (h.app hs hc) ha
  ·cases ha
theorem pq{s:aa}{d e:af}{l:List ah}(h:ca s d l=some e):af.all s d l=some e/\l.length<=40/\e.dP s=true:=by
 unfold ca at h;rw[Option.bind_eq_some_iff] at h;obtain⟨x,h1,h2⟩:=h;split at h2
 ·rename_i hc
  injection h2 with h2
  subst h2;rw[Bool.and_eq_true,decide_eq_true_eq] at hc;exact⟨h1,hc⟩
 ·cases h2
def bW(s:aa):af:=⟨List.replicate s.nd.toNat 0,List.replicate s.fr.length []⟩
theorem mO{α:Type}{n i:Nat}{x:α}:(List.replicate n x).getD i x=x:=by
 rw[List.getD_eq_getElem?_getD,List.getElem?_replicate];split<;>rfl
theorem rh{s:aa}(hs:cQ s):br s (bW s):=by
 have h0:=hs.n0;refine⟨?_,?_,fun i _=>?_,fun e _=>?_,fun e i _ hi=>?_⟩
 ·simp only[bW,List.length_replicate];omega
 ·simp only[bW,List.length_replicate]
 ·simp only[bW,mO];omega
 ·simp only[bW,mO];rfl
 ·simp only[bW,mO] at hi;exact absurd hi (Nat.not_lt_zero _)
def af.nn(d:af):Prop:=∀e i,e<d.mp.length->i<(d.mp.getD e []).length->0<=(d.mp.getD e []).getD i 0
theorem P5{s:aa}:(bW s).nn:=fun e i _ hi=>by
 simp only[bW,mO] at hi;exact absurd hi (Nat.not_lt_zero _)
theorem Xr{s:aa}{d:af}(h:d.dP s=true):d.nn:=fun e i he hi=>by
 unfold af.dP at h;rw[Bool.and_eq_true] at h;have hr:=(rR h.1).2.2.2 e he;exact(ew hr.2 hi).1
structure fU(s:aa)(t:List UInt8)(H:Hs):Prop where
 dl:H.dt.length=H.tx.length+1
 w4:∀d∈H.dt,br s d
 nn:∀d∈H.dt,d.nn
 tl:∀l∈H.tx,l.length<=40
 t6 : 6*H.tx.length<=H.gd
 gl:H.gd<=t.length
theorem fU.last{s:aa}{t:List UInt8}{H:Hs}(h:fU s t H):br s H.last:=by
 have:=h.dl;refine h.w4 _ ?_;unfold Hs.last;rw[aS (by omega)];exact List.getElem_mem _
theorem fU.tN{s:aa}{t:List UInt8}{H:Hs}(h:fU s t H):H.last.nn:=by
 have:=h.dl;refine h.nn _ ?_;unfold Hs.last;rw[aS (by omega)];exact List.getElem_mem _
theorem fU.push{s:aa}{t:List UInt8}{H:Hs}{d:af}{l:List ah}{e:Nat}(hs:cQ s)(h:fU s t H)(hg:ca s H.last l=some d)(h6:H.gd+6<=e)(he:e<=t.length):fU s t (H.push d l e):=by
 obtain⟨g1,g2,g3⟩:=pq hg;have h1:=h.t6;refine⟨?_,fun x hx=>?_,fun x hx=>?_,fun x hx=>?_,?_,he⟩
 ·have:=h.dl
  simp only[Hs.push,List.length_append,List.length_cons,List.length_nil];omega
 ·rcases List.mem_append.1 hx with hx | hx
  ·exact h.w4 x hx
  ·rw[List.mem_singleton] at hx
   subst hx;exact CO hs h.last g1
 ·rcases List.mem_append.1 hx with hx | hx
  ·exact h.nn x hx
  ·rw[List.mem_singleton] at hx
   subst hx;exact Xr g3
 ·rcases List.mem_append.1 hx with hx | hx
  ·exact h.tl x hx
  ·rw[List.mem_singleton] at hx
   subst hx;exact g2
 ·show 6*(H.tx++[l]).length<=e
  simp only[List.length_append,List.length_cons,List.length_nil];omega
theorem GV{H:Hs}{d:af}{l:List ah}{e:Nat}:(H.push d l e).last=d:=by
 simp only[Hs.push,Hs.last,List.length_append,List.length_cons,List.length_nil];rw[List.getD_eq_getElem?_getD,List.getElem?_append_right (by omega)];simp
theorem D4{x:List UInt8} : 5<=(cR x).length:=by
 have:=(tJ (jY (t:=x)).1).2;have:=List.length_pos_iff.2 this;unfold cR;simp only[List.length_append,List.length_cons,List.length_nil];omega
theorem Vw{s:aa}{t:List UInt8}(hs:cQ s):∀(k a:Nat)(cs:List ah)(H:Hs),t.length-a<=k->fU s t H->H.gd<=a->fU s t (dh s t a cs H):=by
 intro k;induction k with
 | zero =>
  intro a cs H hk h _;rw[ia];cases hl:dk t a with
  | none=>exact h
  | some l=>have:=gE hl;omega
 | succ k ih =>
  intro a cs H hk h hg;rw[ia];cases hl:dk t a with
  | none=>exact h
  | some l =>
   have h1:=gE hl;dsimp only;split
   ·rename_i he
    have h5:=D4 (x:=t.take a);rw[<-he] at h5;cases hgo:ca s H.last cs with
    | none=>exact h
    | some d=>exact ih _ _ _ (by omega) (h.push hs hgo (by omega) (by omega)) (Nat.le_refl _)
   ·cases dR l with
    | none=>exact h
    | some c =>
     dsimp only;split
     ·exact h
     ·exact ih _ _ _ (by omega) h (by omega)
theorem xt{t:List UInt8}{p:aa×Nat}(h:cL t=some p):p.1.ok=true/\p.2<=t.length:=by
 unfold cL at h;split at h
 ·rename_i hc
  rw[Option.map_eq_some_iff] at h;obtain⟨s,h1,rfl⟩:=h;refine⟨(uO h1).1,?_⟩;rcases rf (t:=t) (a:=0) with⟨i,h1,h2,h3,h4⟩ | hn
  ·rw[nH (fun j hj=>h4 j (Nat.zero_le _) hj) h2 h3]
   show(t.take i).length+1<=_;rw[List.length_take];omega
  ·rw[qJ fun j hj=>hn j (Nat.zero_le _) hj] at hc
   cases hc
 ·cases h
noncomputable def bn(t:List UInt8):Option (aa×Hs):=(cL t).map fun p=>(p.1,dh p.1 t p.2 [] ⟨[bW p.1],[],p.2⟩)
theorem xy{t:List UInt8}{s:aa}{n:Nat}(hs:cQ s)(hn:n<=t.length):fU s t ⟨[bW s],[],n⟩:=by
 refine⟨rfl,fun d hd=>?_,fun d hd=>?_,(fun l hl=>by cases hl),Nat.zero_le _,hn⟩
 ·rw[List.mem_singleton] at hd
  subst hd;exact rh hs
 ·rw[List.mem_singleton] at hd
  subst hd;exact P5
theorem gJ{t:List UInt8}{p:aa×Hs}(h:bn t=some p):p.1.ok=true/\fU p.1 t p.2:=by
 unfold bn at h;rw[Option.map_eq_some_iff] at h;obtain⟨q,h1,rfl⟩:=h;obtain⟨h2,h3⟩:=xt h1;have hs:=eA (dM h2).1;exact⟨h2,Vw hs _ _ _ _ (Nat.le_refl _) (xy hs h3) (Nat.le_refl _)⟩
end Go.D3
namespace Go.D3
open Go
set_option maxRecDepth 100000
def fy(s:aa)(dt:List af)(tx:List (List ah))(g:Nat):List D:=[.int .i64 s.nd,ints s.fr,ints s.to,ae U.d U.zero s.lf,ae U.d U.zero s.rt,ae af.d af.zero dt,ae (ae ah.d ah.zero) [] tx,.int .i64 g]
def vB:List Nat:=[0,2]
def zD:Sl:=ak Go.Proofs.Tryz.types Go.Proofs.Tryz.f35 vB [(7,77)]
theorem Gc:aF Go.Proofs.Tryz.prog Go.Proofs.Tryz.f35 vB zD 1=true:=by decide +kernel
theorem Us(s:aa)(dt:List af)(tx:List (List ah))(g:Nat)(h : 0<dt.length)(hl:dt.length<=4294966000):fV Go.Proofs.Tryz.prog 35 [.aw 0 [(0,0)]] [.o (.ptr (fy s dt tx g))] (.agg [.sub 0 [(0,5),(dt.length-1,0)],.sub 0 [(0,5),(dt.length-1,1)]]) [.o (.ptr (fy s dt tx g))]:=by
 unfold fy;refine mN .refs Go.Proofs.Tryz.func35 Gc ?_;unfold zD ak vB;simp only[go_sem];have hw:IntKind.i64.wrap ((dt.length:Int)-1)=((dt.length-1:Nat):Int):=by rw[wrap_small (by omega) (by omega)];omega
 rw[hw,Int.toNat_natCast];exact⟨⟨by omega,by omega⟩,by omega,rfl⟩
def cM(s:aa)(dt:List af)(tx:List (List ah))(g:Nat):List D:=[.int .i64 s.nd,.o (ints s.fr),.o (ints s.to),.o (ae U.d U.zero s.lf),.o (ae U.d U.zero s.rt),.o (ae af.d af.zero dt),.o (ae (ae ah.d ah.zero) [] tx),.int .i64 g]
theorem UJ(s:aa)(dt:List af)(tx:List (List ah))(g:Nat)(h : 0<dt.length)(hl:dt.length<=4294966000):fV Go.Proofs.Tryz.prog 35 [.aw 0 [(0,0)]] [.box (cM s dt tx g)] (.agg [.sub 0 [(0,5),(dt.length-1,0)],.sub 0 [(0,5),(dt.length-1,1)]]) [.box (cM s dt tx g)]:=by
 unfold cM;refine mN .refs Go.Proofs.Tryz.func35 Gc ?_;unfold zD ak vB;simp only[go_sem];have hw:IntKind.i64.wrap ((dt.length:Int)-1)=((dt.length-1:Nat):Int):=by rw[wrap_small (by omega) (by omega)];omega
 rw[hw,Int.toNat_natCast];exact⟨⟨by omega,by omega⟩,by omega,rfl⟩
end Go.D3
namespace Go.D3
open Go
def Co(a d:D):Prop:=a=d\/∃n l,d=.ptr l/\a=.ptr (l.take n)
def su:List D->List D->Prop
 | [],[]=>True
 | a::xs,d::ds=>Co a d/\su xs ds
 | _,_=>False
theorem Rd.wk{w:World}{A:Nat->Prop}{v:Value}{a d:D}(h:Rd w A v d)(hw:Co a d):Rd w A v a:=by
 rcases hw with rfl | ⟨n,l,rfl,rfl⟩
 ·exact h
 ·cases h with
  | ptr hA vs hc hr =>
   have key:∀(j:Nat)(x:D),(l.take n)[j]?=some x->l[j]?=some x:=fun j x hx=>by
    rw[List.getElem?_take] at hx;split at hx
    ·exact hx
    ·cases hx
   exact .ptr hA vs (fun j x hx=>hc j x (key j x hx)) fun j x hx=>hr j x (key j x hx)
theorem K2:∀{xs ds:List D},su xs ds->xs.length=ds.length
 | [],[],_=>rfl
 | _::_,_::_,h=>by simp only[List.length_cons,K2 h.2]
 | [],_::_,h=>h.elim
 | _::_,[],h=>h.elim
theorem K1:∀{xs ds:List D},su xs ds->∀{j:Nat}{a:D},xs[j]?=some a->∃d,ds[j]?=some d/\Co a d
 | [],_,_,j,a,hj=>by simp at hj
 | x::r,y::s,h,0,a,hj=>by
  simp only[List.getElem?_cons_zero,Option.some.injEq] at hj;exact⟨y,rfl,hj▸h.1⟩
 | x::r,y::s,h,j+1,a,hj=>by
  simp only[List.getElem?_cons_succ] at hj|-
  exact K1 h.2 hj
 | _::_,[],h,_,_,_=>h.elim
theorem Vp{P:Program}{f:FuncId}{xs ds:List D}{res:D}(h:aC P f (xs.map .v) res)(hw:su xs ds):aC P f (ds.map .v) res:=by
 intro w A vs Fs h0 h1 h2 h3 h4 h5;have hl:=K2 hw;refine(h w A vs Fs h0 h1 (by rw[h2];simp[hl]) (fun j a hj=>?_) h4 fun j b hb=>⟨(h5 j b hb).1,(h5 j b hb).2.1,by simpa[hl] using(h5 j b hb).2.2⟩).mono ?_
 ·rw[List.getElem?_map,Option.map_eq_some_iff] at hj
  obtain⟨x,hx,rfl⟩:=hj;obtain⟨d,hd,hwd⟩:=K1 hw hx;have:=h3 j (.v d) (by rw[List.getElem?_map,hd];rfl);exact⟨this.1.wk hwd,this.2⟩
 ·rintro e w' ⟨v,F,Fs',e1,e2,e3,e4,e5,e6,e7⟩
  refine⟨v,F,Fs',e1,e2,e3,fun j a hj=>?_,e5,fun j b hb=>⟨(e6 j b hb).1,(e6 j b hb).2.1,by simpa[hl] using(e6 j b hb).2.2⟩,e7⟩;rw[List.getElem?_map,Option.map_eq_some_iff] at hj;obtain⟨d,hd,rfl⟩:=hj;have hj2:j<xs.length:=by rw[hl];exact(List.getElem?_eq_some_iff.1 hd).1
  exact e4 j (.v xs[j]) (by rw[List.getElem?_map,List.getElem?_eq_getElem hj2];rfl)
theorem qE{P:Program}{f:FuncId}{pl:Prop}{K:St->Prop}{st:St}{xs:List Arg}{bs ds:List D}{res:D}(hR:aC P f xs res)(ha:xs=bs.map .v)(hw:su bs ds)(hn:res.ba=true\/pl)(hK:K (st.push (aV res))):@nD P f (some ds) true pl none ⟨K⟩ st :=
 av (Vp (ha▸hR) hw) rfl hn hK
end Go.D3
