/- PLAIN LAWS: a journal that is cut behind its good part. -/
import Derived.Test.YtpjbamibcngihaaGreatDoorGAT
namespace Go.D3
open Go
def da(t:List UInt8)(a:Nat):Option (List UInt8):=if(Lib.cut (t.drop a) [10]).2.2=true then some (Lib.cut (t.drop a) [10]).1 else none
theorem sW{t:List UInt8}{a:Nat}:(∃i,a<=i/\i<t.length/\t.getD i 0=10/\∀j,a<=j->j<i->t.getD j 0≠10)\/∀j,a<=j->j<t.length->t.getD j 0≠10:=by
 by_cases h:∃i,a<=i/\i<t.length/\t.getD i 0=10
 ·refine .inl ?_
  obtain⟨i,hi⟩:=h;induction i using Nat.strongRecOn with
  | _ i ih =>
   by_cases hj:∃j,a<=j/\j<i/\t.getD j 0=10
   ·obtain⟨j,h1,h2,h3⟩:=hj
    exact ih j h2 ⟨h1,by omega,h3⟩
   ·exact⟨i,hi.1,hi.2.1,hi.2.2,fun j h1 h2 h3=>hj ⟨j,h1,h2,h3⟩⟩
 ·exact .inr fun j h1 h2 h3=>h ⟨j,h1,h2,h3⟩
theorem yT{t:List UInt8}{a j:Nat}:(t.drop a).getD j 0=t.getD (a+j) 0:=by rw[List.getD_eq_getElem?_getD,List.getElem?_drop,<-List.getD_eq_getElem?_getD]
theorem RJ{t:List UInt8}{a i:Nat}(ha:a<=i)(hi:i<t.length)(hc:t.getD i 0=10)(h:∀j,a<=j->j<i->t.getD j 0≠10):Lib.cut (t.drop a) [10]=((t.take i).drop a,t.drop (i+1),true):=by
 rw[pk (i:=i-a) (fun j hj=>by rw[yT];exact h _ (by omega) (by omega)) (by rw[List.length_drop];omega) (by rw[yT,show a+(i-a)=i by omega];exact hc),List.drop_drop,show a+(i-a+1)=i+1 by omega,List.drop_take]
theorem sT{t:List UInt8}{a i:Nat}(ha:a<=i)(hi:i<t.length)(hc:t.getD i 0=10)(h:∀j,a<=j->j<i->t.getD j 0≠10):da t a=some ((t.take i).drop a):=by
 unfold da;rw[RJ ha hi hc h];rfl
theorem yV{t:List UInt8}{a:Nat}(h:∀j,a<=j->j<t.length->t.getD j 0≠10):da t a=none:=by
 unfold da;rw[tB fun j hj=>by rw[List.length_drop] at hj;rw[yT];exact h _ (by omega) (by omega)];rfl
theorem gb{t:List UInt8}{a:Nat}{l:List UInt8}(h:da t a=some l):a+l.length<t.length:=by
 rcases sW (t:=t) (a:=a) with⟨i,h1,h2,h3,h4⟩ | hn
 ·rw[sT h1 h2 h3 h4] at h
  injection h with h
  rw[<-h,List.length_drop,List.length_take];omega
 ·rw[yV hn] at h;cases h
def gE(t:List UInt8)(a:Nat)(cs:List ah):Option (List ah×Nat) :=
 match _h:da t a with
 | none=>none
 | some l=>if l=dF (t.take a) then some (cs,a+l.length+1) else match dP l with
  | some c=>if cs.length=40 then none else gE t (a+l.length+1) (cs++[c])
  | none=>none
termination_by t.length-a
decreasing_by have:=gb (by assumption);omega
structure Hs where
 dt:List af
 tx:List (List ah)
 gd:Nat
def Hs.last(H:Hs):af:=H.dt.getD (H.dt.length-1) af.zero
def Hs.push(H:Hs)(d:af)(l:List ah)(e:Nat):Hs:=⟨H.dt++[d],H.tx++[l],e⟩
def db(s:aa)(d:af)(l:List ah):Option af:=(af.all s d l).bind fun e=>if(decide (l.length<=40)&&e.fM s)=true then some e else none
def cY(s:aa)(t:List UInt8)(a:Nat)(cs:List ah)(H:Hs):Hs :=
 match _h:da t a with
 | none=>H
 | some l=>if l=dF (t.take a) then(match db s H.last cs with
   | some d=>cY s t (a+l.length+1) [] (H.push d cs (a+l.length+1))
   | none=>H) else match dP l with
  | some c=>if cs.length=40 then H else cY s t (a+l.length+1) (cs++[c]) H
  | none=>H
termination_by t.length-a
decreasing_by all_goals have:=gb (by assumption);omega
theorem gV{t:List UInt8}{a:Nat}{cs:List ah}:gE t a cs=(da t a).bind fun l=>if l=dF (t.take a) then some (cs,a+l.length+1) else(dP l).bind fun c=>if cs.length=40 then none else gE t (a+l.length+1) (cs++[c]):=by
 rw[gE];split
 ·rename_i h;rw[h];rfl
 ·rename_i l h
  rw[h,Option.bind_some];congr 1;cases dP l<;>rfl
theorem iD{s:aa}{t:List UInt8}{a:Nat}{cs:List ah}{H:Hs}:cY s t a cs H=match da t a with
  | none=>H
  | some l=>if l=dF (t.take a) then(match db s H.last cs with
   | some d=>cY s t (a+l.length+1) [] (H.push d cs (a+l.length+1))
   | none=>H) else match dP l with
   | some c=>if cs.length=40 then H else cY s t (a+l.length+1) (cs++[c]) H
   | none=>H:=by
 conv=>lhs;rw[cY]
 split
 ·rename_i h;rw[h]
 ·rename_i l h;rw[h]
theorem qH{s:aa}{t:List UInt8}{H:Hs}:∀(k a:Nat)(cs:List ah),t.length-a<=k->cY s t a cs H=match gE t a cs with
  | none=>H
  | some (l,e)=>match db s H.last l with
   | some d=>cY s t e [] (H.push d l e)
   | none=>H:=by
 intro k;induction k with
 | zero =>
  intro a cs h;rw[iD,gV];cases hl:da t a with
  | none=>rfl
  | some l=>have:=gb hl;omega
 | succ k ih =>
  intro a cs h;rw[iD,gV];cases hl:da t a with
  | none=>rfl
  | some l =>
   have:=gb hl;rw[Option.bind_some];by_cases he:l=dF (t.take a)
   ·simp only[if_pos he]
   ·simp only[if_neg he]
    cases hc:dP l with
    | none=>rfl
    | some c =>
     simp only[Option.bind_some];by_cases h40:cs.length=40
     ·rw[if_pos h40,if_pos h40]
     ·rw[if_neg h40,if_neg h40,ih _ _ (by omega)]
theorem sR{t:List UInt8}:∀(k a:Nat)(cs:List ah),t.length-a<=k->cs.length<=40->∀l e,gE t a cs=some (l,e)->l.length<=40/\a+6<=e/\e<=t.length:=by
 intro k;induction k with
 | zero =>
  intro a cs h _ l e he;rw[gV] at he;cases hl:da t a with
  | none=>rw[hl] at he;cases he
  | some l=>have:=gb hl;omega
 | succ k ih =>
  intro a cs h h40 l e he;rw[gV] at he;cases hl:da t a with
  | none=>rw[hl] at he;cases he
  | some ln =>
   have:=gb hl;rw[hl,Option.bind_some] at he;split at he
   ·rename_i hx
    simp only[Option.some.injEq,Prod.mk.injEq] at he;obtain⟨rfl,rfl⟩:=he
    have hp : 5<=ln.length:=by
     rw[hx];have:=(sY (pI (t:=t.take a)).1).2;have:=List.length_pos_iff.2 this;unfold dF;simp only[List.length_append,List.length_cons,List.length_nil];omega
    exact⟨h40,by omega,by omega⟩
   ·cases hc:dP ln with
    | none=>rw[hc] at he;cases he
    | some c =>
     rw[hc,Option.bind_some] at he;split at he
     ·cases he
     ·rename_i hn
      have:=ih _ _ (by omega) (by rw[List.length_append];simp;omega) l e he;omega
end Go.D3
namespace Go.D3
open Go
set_option maxHeartbeats 4000000
set_option maxRecDepth 100000
def rP:Option (List ah×Nat)->D
 | some (l,e)=>.au [ae ah.d ah.zero l,.int .i64 e,.bool true]
 | none=>.au [ae ah.d ah.zero [],.int .i64 0,.bool false]
theorem UR(o:Option (List ah×Nat)):(rP o).bl=true:=by
 cases o<;>simp only[rP,D.bl,dE,kP I3,Bool.and_self]
def vv:List Nat:=[0,1,4,5,6,7,8,10,11,12]
def BN:Sl:=ak Go.Proofs.Tryz.types Go.Proofs.Tryz.f87 vv []
theorem J2:aI Go.Proofs.Tryz.prog Go.Proofs.Tryz.f87 vv BN 2=true:=by decide +kernel
theorem J1(t:List UInt8)(a0:Nat)(ht:t.length<=4294966000)(ha0:a0<=t.length):aC Go.Proofs.Tryz.prog 87 [.v (.str t),.v (.int .i64 a0)] (rP (gE t a0 [])):=by
 refine aT Go.Proofs.Tryz.func87 J2 ?_;unfold BN ak vv;simp only[go_sem];refine aG [6,7,8,9] (fun(p:Nat×List ah)=>[(1,.int .i64 p.1),(5,.o (ae ah.d ah.zero p.2))]) (fun p=>p.1<=t.length/\p.2.length<=40/\gE t p.1 p.2=gE t a0 []) (fun p=>t.length-p.1) (a0,[]) (by simp only[go_sem];rfl) ⟨ha0,Nat.zero_le _,rfl⟩ rfl ?_;rintro⟨a,cs⟩ ⟨ha,h40,hx⟩;simp only at ha h40 hx;rw[<-hx];rw[gV] at hx|-
 simp only[go_sem];refine⟨⟨ha,Nat.le_refl _⟩,?_⟩;rw[List.take_of_length_le (Nat.le_refl _)];refine ax (qS (by rw[List.length_drop];omega)) rfl (.inl rfl) ?_;have hla:da t a=if(Lib.cut (t.drop a) [10]).2.2=true then some (Lib.cut (t.drop a) [10]).1 else none:=rfl
 generalize Lib.cut (t.drop a) [10]=c at hla;simp only[go_sem];refine⟨fun h=>?_,fun h=>⟨⟨by omega,by omega⟩,?_⟩⟩
 ·have h:c.2.2=false:=by simpa using h
  rw[hla,if_neg (by rw[h];decide)];rfl
 ·have h:c.2.2=true:=by simpa using h
  rw[if_pos h] at hla;have hlt:=gb hla;rw[hla,Option.bind_some] at hx|-
  refine ax (Mw _) rfl (.inl rfl) ?_;simp only[go_sem];refine ax oS rfl (.inl rfl) ?_;simp only[go_sem];have hk:=pI (t:=t.take a);have:=fv hk.1 (by omega);have hend:dF (t.take a)=101::110::100::32::Lib.itoa (fE 7 (t.take a)):=rfl;refine⟨by simp only[maxLen];omega,fun h1=>?_,fun h1=>?_⟩
  ·rw[if_pos (by rw[hend];exact h1),wrap_small (n:=(a:Int)+c.1.length) (by omega) (by omega),wrap_small (by omega) (by omega)]
   rfl
  ·have hne:¬c.1=dF (t.take a):=by rw[hend];simpa using h1
   rw[if_neg hne] at hx|-
   refine ax (Kt c.1 (by omega)) rfl (.inl (Ic _)) ?_;cases hc:dP c.1 with
   | none =>
    simp only[oc];simp only[go_sem];rfl
   | some x =>
    rw[hc,Option.bind_some] at hx;simp only[oc];simp only[go_sem];refine⟨fun h2=>by rw[if_pos (by omega)];rfl,fun h2=>⟨by omega,(a+c.1.length+1,cs++[x]),⟨by show a+c.1.length+1<=_;omega,?_,?_⟩,by show t.length-(a+c.1.length+1)<_;omega,?_⟩⟩
    all_goals have h2:cs.length≠40:=by rintro h3;rw[h3] at h2;cases h2
    ·show(cs++[x]).length<=40
     simp only[List.length_append,List.length_cons,List.length_nil];omega
    ·rw[if_neg h2]
    ·rw[wrap_small (n:=(c.1.length:Int)+1) (by omega) (by omega),wrap_small (by omega) (by omega)]
     show _=[_,D.int .i64 ((a+c.1.length+1:Nat):Int),_,_,_,_,_,_,_,_];rw[show(a:Int)+((c.1.length:Int)+1)=((a+c.1.length+1:Nat):Int) by omega]
end Go.D3
namespace Go.D3
open Go
theorem I1{s:aa}(hs:dT s):∀{l:List ah}{d e:af},bX s d->af.all s d l=some e->bX s e
 | [],d,e,h,ha=>by cases ha;exact h
 | c::l,d,e,h,ha=>by
  rw[af.all] at ha;split at ha
  ·rename_i hc
   exact I1 hs (h.app hs hc) ha
  ·cases ha
theorem qx{s:aa}{d e:af}{l:List ah}(h:db s d l=some e):af.all s d l=some e/\l.length<=40/\e.fM s=true:=by
 unfold db at h;rw[Option.bind_eq_some_iff] at h;obtain⟨x,h1,h2⟩:=h;split at h2
 ·rename_i hc
  injection h2 with h2
  subst h2;rw[Bool.and_eq_true,decide_eq_true_eq] at hc;exact⟨h1,hc⟩
 ·cases h2
def eE(s:aa):af:=⟨List.replicate s.nd.toNat 0,List.replicate s.fr.length []⟩
theorem qE{α:Type}{n i:Nat}{x:α}:(List.replicate n x).getD i x=x:=by
 rw[List.getD_eq_getElem?_getD,List.getElem?_replicate];split<;>rfl
theorem U4{s:aa}(hs:dT s):bX s (eE s):=by
 have h0:=hs.n0;refine⟨?_,?_,fun i _=>?_,fun e _=>?_,fun e i _ hi=>?_⟩
 ·simp only[eE,List.length_replicate];omega
 ·simp only[eE,List.length_replicate]
 ·simp only[eE,qE];omega
 ·simp only[eE,qE];rfl
 ·simp only[eE,qE] at hi;exact absurd hi (Nat.not_lt_zero _)
def af.nn(d:af):Prop:=∀e i,e<d.mp.length->i<(d.mp.getD e []).length->0<=(d.mp.getD e []).getD i 0
theorem Ug{s:aa}:(eE s).nn:=fun e i _ hi=>by
 simp only[eE,qE] at hi;exact absurd hi (Nat.not_lt_zero _)
theorem Rs{s:aa}{d:af}(h:d.fM s=true):d.nn:=fun e i he hi=>by
 unfold af.fM at h;rw[Bool.and_eq_true] at h;have hr:=(s5 h.1).2.2.2 e he;exact(dJ hr.2 hi).1
structure fU(s:aa)(t:List UInt8)(H:Hs):Prop where
 dl:H.dt.length=H.tx.length+1
 vn:∀d∈H.dt,bX s d
 nn:∀d∈H.dt,d.nn
 tl:∀l∈H.tx,l.length<=40
 t6 : 6*H.tx.length<=H.gd
 gl:H.gd<=t.length
theorem fU.last{s:aa}{t:List UInt8}{H:Hs}(h:fU s t H):bX s H.last:=by
 have:=h.dl;refine h.vn _ ?_;unfold Hs.last;rw[aS (by omega)];exact List.getElem_mem _
theorem fU.T3{s:aa}{t:List UInt8}{H:Hs}(h:fU s t H):H.last.nn:=by
 have:=h.dl;refine h.nn _ ?_;unfold Hs.last;rw[aS (by omega)];exact List.getElem_mem _
theorem fU.push{s:aa}{t:List UInt8}{H:Hs}{d:af}{l:List ah}{e:Nat}(hs:dT s)(h:fU s t H)(hg:db s H.last l=some d)(h6:H.gd+6<=e)(he:e<=t.length):fU s t (H.push d l e):=by
 obtain⟨g1,g2,g3⟩:=qx hg;have h1:=h.t6;refine⟨?_,fun x hx=>?_,fun x hx=>?_,fun x hx=>?_,?_,he⟩
 ·have:=h.dl
  simp only[Hs.push,List.length_append,List.length_cons,List.length_nil];omega
 ·rcases List.mem_append.1 hx with hx | hx
  ·exact h.vn x hx
  ·rw[List.mem_singleton] at hx
   subst hx;exact I1 hs h.last g1
 ·rcases List.mem_append.1 hx with hx | hx
  ·exact h.nn x hx
  ·rw[List.mem_singleton] at hx
   subst hx;exact Rs g3
 ·rcases List.mem_append.1 hx with hx | hx
  ·exact h.tl x hx
  ·rw[List.mem_singleton] at hx
   subst hx;exact g2
 ·show 6*(H.tx++[l]).length<=e
  simp only[List.length_append,List.length_cons,List.length_nil];omega
theorem Iw{x:List UInt8} : 5<=(dF x).length:=by
 have:=(sY (pI (t:=x)).1).2;have:=List.length_pos_iff.2 this;unfold dF;simp only[List.length_append,List.length_cons,List.length_nil];omega
theorem Tj{s:aa}{t:List UInt8}(hs:dT s):∀(k a:Nat)(cs:List ah)(H:Hs),t.length-a<=k->fU s t H->H.gd<=a->fU s t (cY s t a cs H):=by
 intro k;induction k with
 | zero =>
  intro a cs H hk h _;rw[iD];cases hl:da t a with
  | none=>exact h
  | some l=>have:=gb hl;omega
 | succ k ih =>
  intro a cs H hk h hg;rw[iD];cases hl:da t a with
  | none=>exact h
  | some l =>
   have h1:=gb hl;dsimp only;split
   ·rename_i he
    have h5:=Iw (x:=t.take a);rw[<-he] at h5;cases hgo:db s H.last cs with
    | none=>exact h
    | some d=>exact ih _ _ _ (by omega) (h.push hs hgo (by omega) (by omega)) (Nat.le_refl _)
   ·cases dP l with
    | none=>exact h
    | some c =>
     dsimp only;split
     ·exact h
     ·exact ih _ _ _ (by omega) h (by omega)
theorem Ab{t:List UInt8}{p:aa×Nat}(h:dw t=some p):p.1.ok=true/\p.2<=t.length:=by
 unfold dw at h;split at h
 ·rename_i hc
  rw[Option.map_eq_some_iff] at h;obtain⟨s,h1,rfl⟩:=h;refine⟨(As h1).1,?_⟩;rcases sW (t:=t) (a:=0) with⟨i,h1,h2,h3,h4⟩ | hn
  ·rw[pk (fun j hj=>h4 j (Nat.zero_le _) hj) h2 h3]
   show(t.take i).length+1<=_;rw[List.length_take];omega
  ·rw[tB fun j hj=>hn j (Nat.zero_le _) hj] at hc
   cases hc
 ·cases h
noncomputable def bO(t:List UInt8):Option (aa×Hs):=(dw t).map fun p=>(p.1,cY p.1 t p.2 [] ⟨[eE p.1],[],p.2⟩)
theorem Aw{t:List UInt8}{s:aa}{n:Nat}(hs:dT s)(hn:n<=t.length):fU s t ⟨[eE s],[],n⟩:=by
 refine⟨rfl,fun d hd=>?_,fun d hd=>?_,(fun l hl=>by cases hl),Nat.zero_le _,hn⟩
 ·rw[List.mem_singleton] at hd
  subst hd;exact U4 hs
 ·rw[List.mem_singleton] at hd
  subst hd;exact Ug
theorem jT{t:List UInt8}{p:aa×Hs}(h:bO t=some p):p.1.ok=true/\fU p.1 t p.2:=by
 unfold bO at h;rw[Option.map_eq_some_iff] at h;obtain⟨q,h1,rfl⟩:=h;obtain⟨h2,h3⟩:=Ab h1;have hs:=eQ (eK h2).1;exact⟨h2,Tj hs _ _ _ _ (Nat.le_refl _) (Aw hs h3) (Nat.le_refl _)⟩
end Go.D3
namespace Go.D3
open Go
def af.vl(d:af)(e i:Nat):Int:=(d.mp.getD e []).getD i 0
def af.ln(d:af)(e:Nat):Nat:=(d.mp.getD e []).length
def ah.cM(c:ah)(e i:Int):Bool:=decide (c.kd=2)&&decide (c.fi=e)&&decide (c.se=i)
theorem qY{c:ah}{e i:Int}:c.cM e i=true↔c.kd=2/\c.fi=e/\c.se=i:=by
 unfold ah.cM;rw[Bool.and_eq_true,Bool.and_eq_true,decide_eq_true_eq,decide_eq_true_eq,decide_eq_true_eq,and_assoc]
theorem Uh{c:ah}(h:c.okB=true)(hk:¬c.kd=1):c.kd=2:=by
 unfold ah.okB at h;rw[if_neg hk,beq_iff_eq] at h;exact h
theorem Vf{s:aa}{d:af}{c:ah}(h:bX s d)(hc:d.can s c=true){e i:Nat}(he:e<s.fr.length) :
  d.ln e<=(d.app s c).ln e/\(c.cM e i=true->i<d.ln e)/\(c.cM e i=false->(i<d.ln e->(d.app s c).vl e i=d.vl e i)/\(d.ln e<=i->i<(d.app s c).ln e->(d.app s c).vl e i=-1)):=by
 have hmf:=h.mp;unfold af.can at hc;rw[Bool.and_eq_true] at hc;unfold af.app af.vl af.ln;by_cases hk:c.kd=1
 ·rw[if_pos hk]
  have hmp:(fm d.mp (en s.fr c.fi s.fr.length)).getD e []=if e<s.fr.length/\s.fr.getD e 0=c.fi then d.mp.getD e []++[-1] else d.mp.getD e []:=ta (by omega) e
  dsimp only;rw[hmp];by_cases hx:e<s.fr.length/\s.fr.getD e 0=c.fi
  ·rw[if_pos hx,List.length_append,List.length_cons,List.length_nil]
   refine⟨by omega,fun hs=>?_,fun _=>⟨fun hi=>?_,fun h1 h2=>?_⟩⟩
   ·have:=(qY.1 hs).1;omega
   ·rw[List.getD_eq_getElem?_getD,List.getElem?_append,if_pos hi,<-List.getD_eq_getElem?_getD]
   ·rw[List.getD_eq_getElem?_getD,List.getElem?_append,if_neg (by omega),show i-(d.mp.getD e []).length=0 by omega];rfl
  ·rw[if_neg hx]
   refine⟨Nat.le_refl _,fun hs=>?_,fun _=>⟨fun _=>rfl,fun h1 h2=>by omega⟩⟩;have:=(qY.1 hs).1;omega
 ·rw[if_neg hk]
  rw[if_neg hk] at hc;simp only[Bool.and_eq_true,aL,decide_eq_true_eq] at hc;obtain⟨hok,⟨⟨h0,h1⟩,h2,h3⟩,h4,h5⟩:=hc;have hlt:c.fi.toNat<d.mp.length:=by omega
  have hl:=h.len _ hlt;have hkd:c.kd=2:=Uh hok hk;dsimp only;rw[lN hlt];by_cases hx:e=c.fi.toNat
  ·subst hx
   rw[if_pos rfl,List.length_set];refine⟨Nat.le_refl _,fun hs=>?_,fun hs=>⟨fun hi=>?_,fun _ _=>by omega⟩⟩
   ·have:=(qY.1 hs).2.2
    omega
   ·have hn:¬i=c.se.toNat:=by
     intro hi2;have:c.cM (c.fi.toNat:Int) (i:Int)=true:=qY.2 ⟨hkd,by omega,by omega⟩;rw[this] at hs;cases hs
    rw[lN (by omega),if_neg hn]
  ·rw[if_neg hx]
   refine⟨Nat.le_refl _,fun hs=>?_,fun _=>⟨fun _=>rfl,fun h1 h2=>by omega⟩⟩;have:=(qY.1 hs).2.1;omega
theorem ua{s:aa}(hs:dT s){e i:Nat}(he:e<s.fr.length):∀{l:List ah}{d d2:af},bX s d->af.all s d l=some d2 ->
  d.ln e<=d2.ln e/\((∃c∈l,c.cM e i=true)->i<d2.ln e)/\((∀c∈l,c.cM e i=false)->(i<d.ln e->d2.vl e i=d.vl e i)/\(d.ln e<=i->i<d2.ln e->d2.vl e i=-1))
 | [],d,d2,h,ha=>by
  cases ha;exact⟨Nat.le_refl _,(fun⟨_,hm,_⟩=>by cases hm),fun _=>⟨fun _=>rfl,fun h1 h2=>by omega⟩⟩
 | c::l,d,d2,h,ha=>by
  rw[af.all] at ha;split at ha
  ·rename_i hc
   obtain⟨a1,a2,a3⟩:=Vf (i:=i) h hc he;obtain⟨b1,b2,b3⟩:=ua hs (i:=i) he (h.app hs hc) ha;refine⟨by omega,fun⟨x,hm,hx⟩=>?_,fun hn=>?_⟩
   ·rcases List.mem_cons.1 hm with rfl | hm
    ·have:=a2 hx;omega
    ·exact b2 ⟨x,hm,hx⟩
   ·obtain⟨c1,c2⟩:=a3 (hn c List.mem_cons_self)
    obtain⟨d1,d2⟩:=b3 fun x hx=>hn x (List.mem_cons_of_mem _ hx)
    refine⟨fun hi=>by rw[d1 (by omega),c1 hi],fun h1 h2=>?_⟩;by_cases h3:i<(d.app s c).ln e
    ·rw[d1 h3,c2 h1 h3]
    ·exact d2 (by omega) h2
  ·cases ha
structure gC(s:aa)(H:Hs):Prop where
 dl:H.dt.length=H.tx.length+1
 d0:H.dt.getD 0 af.zero=eE s
 st:∀j,j<H.tx.length->db s (H.dt.getD j af.zero) (H.tx.getD j [])=some (H.dt.getD (j+1) af.zero)
theorem sU{α:Type}{l m:List α}{j:Nat}{z:α}:(l++m).getD j z=if j<l.length then l.getD j z else m.getD (j-l.length) z:=by
 rw[List.getD_eq_getElem?_getD,List.getElem?_append];split<;>rw[List.getD_eq_getElem?_getD]
theorem gC.push{s:aa}{H:Hs}{d:af}{l:List ah}{e:Nat}(h:gC s H)(hg:db s H.last l=some d):gC s (H.push d l e):=by
 have hl:=h.dl;refine⟨?_,?_,fun j hj=>?_⟩
 ·simp only[Hs.push,List.length_append,List.length_cons,List.length_nil];omega
 ·show(H.dt++[d]).getD 0 af.zero=_
  rw[sU,if_pos (by omega)];exact h.d0
 ·have hj:j<(H.tx++[l]).length:=hj
  rw[List.length_append,List.length_cons,List.length_nil] at hj;show db s ((H.dt++[d]).getD j af.zero) ((H.tx++[l]).getD j [])=some ((H.dt++[d]).getD (j+1) af.zero);rw[sU,if_pos (by omega),sU,sU];by_cases h1:j<H.tx.length
  ·rw[if_pos h1,if_pos (by omega)];exact h.st j h1
  ·rw[if_neg h1,if_neg (by omega),show j-H.tx.length=0 by omega,show j+1-H.dt.length=0 by omega]
   unfold Hs.last at hg;rw[show H.dt.length-1=j by omega] at hg;exact hg
theorem TO{s:aa}{t:List UInt8}:∀(k a:Nat)(cs:List ah)(H:Hs),t.length-a<=k->gC s H->gC s (cY s t a cs H):=by
 intro k;induction k with
 | zero =>
  intro a cs H hk h;rw[iD];cases hl:da t a with
  | none=>exact h
  | some l=>have:=gb hl;omega
 | succ k ih =>
  intro a cs H hk h;rw[iD];cases hl:da t a with
  | none=>exact h
  | some l =>
   have h1:=gb hl;dsimp only;split
   ·cases hgo:db s H.last cs with
    | none=>exact h
    | some d=>exact ih _ _ _ (by omega) (h.push hgo)
   ·cases dP l with
    | none=>exact h
    | some c =>
     dsimp only;split
     ·exact h
     ·exact ih _ _ _ (by omega) h
theorem Su{t:List UInt8}{p:aa×Hs}(h:bO t=some p):gC p.1 p.2:=by
 unfold bO at h;rw[Option.map_eq_some_iff] at h;obtain⟨q,h1,rfl⟩:=h;exact TO _ _ _ _ (Nat.le_refl _) ⟨rfl,rfl,fun j hj=>absurd hj (Nat.not_lt_zero _)⟩
theorem gC.ok{s:aa}{H:Hs}(h:gC s H)(hd:∀d∈H.dt,bX s d){j:Nat}(hj:j<=H.tx.length):bX s (H.dt.getD j af.zero):=by
 have:=h.dl;rw[aS (by omega)];exact hd _ (List.getElem_mem _)
theorem gC.I9{s:aa}{H:Hs}(hs:dT s)(h:gC s H)(hd:∀d∈H.dt,bX s d){e i:Nat}(he:e<s.fr.length):∀j,j<=H.tx.length->(∀k,k<j->∀c∈H.tx.getD k [],c.cM e i=false)->i<(H.dt.getD j af.zero).ln e->(H.dt.getD j af.zero).vl e i=-1
 | 0,_,_,hi=>by
  rw[h.d0] at hi;simp only[af.ln,eE,qE] at hi;exact absurd hi (Nat.not_lt_zero _)
 | j+1,hj,hn,hi=>by
  obtain⟨g1,_,_⟩:=qx (h.st j (by omega));obtain⟨_,_,a3⟩:=ua hs (i:=i) he (h.ok hd (by omega)) g1;obtain⟨c1,c2⟩:=a3 (hn j (by omega));by_cases h3:i<(H.dt.getD j af.zero).ln e
  ·rw[c1 h3]
   exact gC.I9 hs h hd he j (by omega) (fun k hk=>hn k (by omega)) h3
  ·exact c2 (by omega) hi
theorem gC.same{s:aa}{H:Hs}(hs:dT s)(h:gC s H)(hd:∀d∈H.dt,bX s d){e i:Nat}(he:e<s.fr.length){k:Nat}:∀m,k+m<=H.tx.length->(∀q,k<=q->q<k+m->∀c∈H.tx.getD q [],c.cM e i=false)->i<(H.dt.getD k af.zero).ln e->i<(H.dt.getD (k+m) af.zero).ln e/\(H.dt.getD (k+m) af.zero).vl e i=(H.dt.getD k af.zero).vl e i
 | 0,_,_,hi=>⟨hi,rfl⟩
 | m+1,hm,hn,hi=>by
  obtain⟨i1,i2⟩:=gC.same hs h hd he m (by omega) (fun q h1 h2=>hn q h1 (by omega)) hi;obtain⟨g1,_,_⟩:=qx (h.st (k+m) (by omega));obtain⟨a1,_,a3⟩:=ua hs (i:=i) he (h.ok hd (by omega)) g1;obtain⟨c1,_⟩:=a3 (hn (k+m) (by omega) (by omega));rw[<-Nat.add_assoc];exact⟨by omega,by rw[c1 i1,i2]⟩
def eC(tx:List (List ah))(e i:Int):Nat->Nat
 | 0=>0
 | j+1=>if(tx.getD j []).any (fun c=>c.cM e i)=true then j+1 else eC tx e i j
theorem E4{tx:List (List ah)}{e i:Int}:∀n,eC tx e i n<=n/\(∀q,eC tx e i n<=q->q<n->∀c∈tx.getD q [],c.cM e i=false)/\(0<eC tx e i n->∃c∈tx.getD (eC tx e i n-1) [],c.cM e i=true)
 | 0=>⟨Nat.le_refl _,(fun q _ h=>absurd h (Nat.not_lt_zero _)),fun h=>absurd h (Nat.not_lt_zero _)⟩
 | n+1=>by
  obtain⟨h1,h2,h3⟩:=E4 n;rw[eC];split
  ·rename_i h
   refine⟨Nat.le_refl _,(fun q h4 h5=>by omega),fun _=>?_⟩;obtain⟨c,hc,hx⟩:=List.any_eq_true.1 h;exact⟨c,hc,hx⟩
  ·rename_i h
   refine⟨by omega,fun q h4 h5 c hc=>?_,h3⟩;by_cases hq:q=n
   ·subst hq
    cases hx:c.cM e i with
    | false=>rfl
    | true=>exact absurd (List.any_eq_true.2 ⟨c,hc,hx⟩) h
   ·exact h2 q h4 (by omega) c hc
theorem HI{t:List UInt8}{p:aa×Hs}(h:bO t=some p){e i:Nat}(he:e<p.1.fr.length)(hi:i<p.2.last.ln e) :
  0<eC p.2.tx e i p.2.tx.length/\eC p.2.tx e i p.2.tx.length<=p.2.tx.length/\∀j,eC p.2.tx e i p.2.tx.length<=j->j<=p.2.tx.length->i<(p.2.dt.getD j af.zero).ln e/\(p.2.dt.getD j af.zero).vl e i=p.2.last.vl e i:=by
 obtain⟨s,H⟩:=p;dsimp only at he hi|-
 obtain⟨ho,hk⟩:=jT h;have hch:gC s H:=Su h;have hs:dT s:=eQ (eK ho).1;have hd:∀d∈H.dt,bX s d:=hk.vn;obtain⟨f1,f2,f3⟩:=E4 (tx:=H.tx) (e:=e) (i:=i) H.tx.length;have hl:H.last=H.dt.getD H.tx.length af.zero:=by unfold Hs.last;rw[hch.dl];rfl
 have hpos : 0<eC H.tx e i H.tx.length:=by
  rcases Nat.eq_zero_or_pos (eC H.tx e i H.tx.length) with h0 | h0
  ·exfalso
   rw[h0] at f2;have h1:=hch.I9 hs hd he H.tx.length (Nat.le_refl _) (fun k hk=>f2 k (Nat.zero_le _) hk) (by rw[<-hl];exact hi);rw[<-hl] at h1;have h2:=hk.T3 e i (by have:=hk.last.mp;exact this▸he) hi;unfold af.vl at h1;rw[h1] at h2;omega
  ·exact h0
 generalize hg:eC H.tx e i H.tx.length=k at *
 have hik:i<(H.dt.getD k af.zero).ln e:=by
  obtain⟨j,rfl⟩:∃j,k=j+1:=⟨k-1,by omega⟩;obtain⟨g1,_,_⟩:=qx (hch.st j (by omega));obtain⟨_,a2,_⟩:=ua hs (i:=i) he (hch.ok hd (by omega)) g1;exact a2 (f3 hpos)
 have hall:∀j,k<=j->j<=H.tx.length->i<(H.dt.getD j af.zero).ln e/\(H.dt.getD j af.zero).vl e i=(H.dt.getD k af.zero).vl e i:=by
  intro j h1 h2;obtain⟨m,rfl⟩:∃m,j=k+m:=⟨j-k,by omega⟩;exact hch.same hs hd he m h2 (fun q h3 h4=>f2 q h3 (by omega)) hik
 refine⟨hpos,f1,fun j h1 h2=>?_⟩;rw[hl,(hall _ f1 (Nat.le_refl _)).2];exact hall j h1 h2
end Go.D3
namespace Go.D3
open Go
theorem I0:∀(k n:Nat),0<k->n<10 ^ k->(Lib.decDigits n).length<=k
 | 0,_,h,_=>absurd h (Nat.lt_irrefl _)
 | k+1,n,_,hn=>by
  by_cases h:n<10
  ·rw[Lib.decDigits,dif_pos h];simp
  ·rw[uu h,List.length_append,List.length_cons,List.length_nil]
   have h1 : 0<k:=by
    rcases Nat.eq_zero_or_pos k with h0 | h0
    ·subst h0;simp at hn;omega
    ·exact h0
   have:=I0 k (n / 10) h1 (by rw[Nat.pow_succ] at hn;omega);omega
theorem oV{n:Int}(h0 : 0<=n)(h1:n<=1000000):∃m:Nat,n=m/\bt 9 (Lib.itoa n)=some m/\(32:UInt8) ∉ Lib.itoa n/\(10:UInt8) ∉ Lib.itoa n:=by
 obtain⟨m,rfl⟩:∃m:Nat,n=m:=⟨n.toNat,by omega⟩;have hd:=(yR m).1;refine⟨m,rfl,?_,?_,?_⟩
 ·rw[Lib.itoa_nonneg]
  exact Aa (I0 9 m (by omega) (by omega))
 all_goals
  rw[Lib.itoa_nonneg];intro hm;have:=List.all_eq_true.1 hd _ hm;revert this;decide
def ah.tl(c:ah):Prop:=pX c/\c.okB=true
theorem Ig{c:ah}(h:pX c):(10:UInt8) ∉ c.line:=by
 obtain⟨a,ha,_,_,a10⟩:=oV h.1.1 h.1.2;unfold ah.line;split
 ·intro hm
  rcases List.mem_append.1 hm with hm | hm
  ·revert hm;decide
  ·exact a10 hm
 ·rename_i hk
  obtain⟨⟨b1,b2⟩,c1,c2⟩:=h.2 hk;obtain⟨_,_,_,_,b10⟩:=oV b1 b2;obtain⟨_,_,_,_,c10⟩:=oV c1 c2;intro hm;simp only[List.mem_append] at hm;rcases hm with((((hm | hm) | hm) | hm) | hm) | hm
  ·revert hm;decide
  ·exact a10 hm
  ·revert hm;decide
  ·exact b10 hm
  ·revert hm;decide
  ·exact c10 hm
theorem Q3{c:ah}(h:c.tl):dP c.line=some c:=by
 obtain⟨hc,hk⟩:=h;obtain⟨kd,fi,se,th⟩:=c;obtain⟨a,ha,na,a32,_⟩:=oV hc.1.1 hc.1.2;unfold ah.okB at hk;unfold ah.line;dsimp only at *;by_cases h1:kd=1
 ·rw[if_pos h1] at hk|-
  simp only[Bool.and_eq_true,beq_iff_eq] at hk;obtain⟨rfl,rfl⟩:=hk
  have e:aR [32] 0 ([97,100,100,32]++Lib.itoa fi)=[[97,100,100],Lib.itoa fi]:=by
   have:=nB (c:=32) (a:=[97,100,100]) (r:=Lib.itoa fi) (by decide);rw[qA a32] at this;exact this
  unfold dP;rw[e]
  have e2:ia ([[97,100,100],Lib.itoa fi].drop 1)=some [a]:=by
   unfold ia;rw[List.drop_succ_cons,List.drop_zero,List.mapM_cons,na];rfl
  rw[e2,h1,ha];rfl
 ·rw[if_neg h1] at hk|-
  rw[beq_iff_eq] at hk;obtain⟨⟨b1,b2⟩,c1,c2⟩:=hc.2 h1;obtain⟨b,hb,nb,b32,_⟩:=oV b1 b2;obtain⟨d,hd,nd,d32,_⟩:=oV c1 c2;have hb:se=b:=hb;have hd:th=d:=hd
  have e:aR [32] 0 ([115,101,116,32]++Lib.itoa fi++[32]++Lib.itoa se++[32]++Lib.itoa th)=[[115,101,116],Lib.itoa fi,Lib.itoa se,Lib.itoa th]:=by
   have e1:=nB (c:=32) (a:=[115,101,116]) (r:=Lib.itoa fi++[32]++(Lib.itoa se++[32]++Lib.itoa th)) (by decide);rw[nB a32,nB b32,qA d32] at e1;rw[<-e1];simp
  unfold dP;rw[e]
  have e2:ia ([[115,101,116],Lib.itoa fi,Lib.itoa se,Lib.itoa th].drop 1)=some [a,b,d]:=by
   unfold ia;rw[List.drop_succ_cons,List.drop_zero,List.mapM_cons,na,List.mapM_cons,nb,List.mapM_cons,nd];rfl
  rw[e2,hk,ha,hb,hd];rfl
theorem sF{t u:List UInt8}{n j:Nat}(h:u.take n=t.take n)(hj:j<n):u.getD j 0=t.getD j 0:=by
 have h1:(u.take n)[j]?=(t.take n)[j]?:=by rw[h]
 rw[List.getElem?_take_of_lt hj,List.getElem?_take_of_lt hj] at h1;rw[List.getD_eq_getElem?_getD,List.getD_eq_getElem?_getD,h1]
theorem tF{t u:List UInt8}{n a:Nat}(h:u.take n=t.take n)(ha:a<=n):u.take a=t.take a:=by
 have:=congrArg (List.take a) h
 rwa [List.take_take,List.take_take,Nat.min_eq_left ha] at this
theorem I4{u:List UInt8}{i:Nat}(h:u.getD i 0=10):i<u.length:=by
 rcases Nat.lt_or_ge i u.length with hi | hi
 ·exact hi
 ·rw[List.getD_eq_getElem?_getD,List.getElem?_eq_none hi] at h
  exact absurd h (by decide)
theorem FN{t u:List UInt8}{a n:Nat}{l:List UInt8}(h:da t a=some l)(hn:a+l.length+1<=n)(hu:u.take n=t.take n):da u a=some l:=by
 rcases sW (t:=t) (a:=a) with⟨i,h1,h2,h3,h4⟩ | hf
 ·rw[sT h1 h2 h3 h4] at h
  injection h with h
  have hl:l.length=i-a:=by rw[<-h,List.length_drop,List.length_take];omega
  have hi:u.getD i 0=10:=by rw[sF hu (by omega)];exact h3
  rw[sT h1 (I4 hi) hi fun j g1 g2=>by rw[sF hu (by omega)];exact h4 j g1 g2,tF hu (by omega),h]
 ·rw[yV hf] at h;cases h
theorem Rb{t u:List UInt8}{n:Nat}(hu:u.take n=t.take n):∀(k a:Nat)(cs:List ah),t.length-a<=k->cs.length<=40->∀l e,gE t a cs=some (l,e)->e<=n->gE u a cs=some (l,e):=by
 intro k;induction k with
 | zero =>
  intro a cs h _ l e he _;rw[gV] at he;cases hl:da t a with
  | none=>rw[hl] at he;cases he
  | some l=>have:=gb hl;omega
 | succ k ih =>
  intro a cs h h40 l e he hn;rw[gV] at he;cases hl:da t a with
  | none=>rw[hl] at he;cases he
  | some ln =>
   have hlt:=gb hl;rw[hl,Option.bind_some] at he;split at he
   ·rename_i hx
    simp only[Option.some.injEq,Prod.mk.injEq] at he;obtain⟨rfl,rfl⟩:=he;rw[gV,FN hl hn hu,Option.bind_some,tF hu (by omega),if_pos hx]
   ·rename_i hx
    cases hc:dP ln with
    | none=>rw[hc] at he;cases he
    | some c =>
     rw[hc,Option.bind_some] at he;split at he
     ·cases he
     ·rename_i hc40
      have h2:(cs++[c]).length<=40:=by rw[List.length_append,List.length_cons,List.length_nil];omega
      have hf:=sR _ _ _ (Nat.le_refl _) h2 _ _ he;rw[gV,FN hl (by omega) hu,Option.bind_some,tF hu (by omega),if_neg hx,hc,Option.bind_some,if_neg hc40];exact ih _ _ (by omega) h2 _ _ he hn
theorem HD{s:aa}{t:List UInt8}:∀(k a:Nat)(H:Hs),t.length-a<=k->H.gd<=a->H.gd<=(cY s t a [] H).gd:=by
 intro k;induction k with
 | zero =>
  intro a H h hg;rw[iD];cases hl:da t a with
  | none=>exact Nat.le_refl _
  | some l=>have:=gb hl;omega
 | succ k ih =>
  intro a H h hg;rw[qH _ a [] (Nat.le_refl _)];cases ht:gE t a [] with
  | none=>exact Nat.le_refl _
  | some p =>
   obtain⟨l,e⟩:=p;obtain⟨_,f2,f3⟩:=sR _ _ _ (Nat.le_refl _) (by simp) _ _ ht;dsimp only;cases hg:db s H.last l with
   | none=>exact Nat.le_refl _
   | some d =>
    have:=ih e (H.push d l e) (by omega) (Nat.le_refl _);have h2:(H.push d l e).gd=e:=rfl;dsimp only;omega
theorem ON{s:aa}{t u:List UInt8}:∀(k a:Nat)(H:Hs),t.length-a<=k->H.gd=a->u.take (cY s t a [] H).gd=t.take (cY s t a [] H).gd->cY s u a [] H=cY s u (cY s t a [] H).gd [] (cY s t a [] H):=by
 intro k;induction k with
 | zero =>
  intro a H h hg hu
  have e:cY s t a [] H=H:=by
   rw[iD];cases hl:da t a with
   | none=>rfl
   | some l=>have:=gb hl;omega
  rw[e,hg]
 | succ k ih =>
  intro a H h hg hu;have e:=qH (s:=s) (t:=t) (H:=H) _ a [] (Nat.le_refl _);cases ht:gE t a [] with
  | none =>
   rw[ht] at e;dsimp only at e;rw[e,hg]
  | some p =>
   obtain⟨l,b⟩:=p;obtain⟨_,f2,f3⟩:=sR _ _ _ (Nat.le_refl _) (by simp) _ _ ht;rw[ht] at e;dsimp only at e;cases hd:db s H.last l with
   | none =>
    rw[hd] at e;dsimp only at e;rw[e,hg]
   | some d =>
    rw[hd] at e;dsimp only at e;rw[e] at hu|-
    have h1:=HD (s:=s) (t:=t) _ b (H.push d l b) (Nat.le_refl _) (Nat.le_refl _);have h2:(H.push d l b).gd=b:=rfl;rw[qH (s:=s) (t:=u) (H:=H) _ a [] (Nat.le_refl _),Rb hu _ _ _ (Nat.le_refl _) (by simp) _ _ ht (by omega)];dsimp only;rw[hd];exact ih b (H.push d l b) (by omega) h2 hu
end Go.D3
