/- TWO OPERATIONS OF A REGION IN EITHER ORDER. Generic. -/
import Derived.Test.YtgieggnpnepkfaaGreatDoorHoist
namespace Go.D3
open Go
section
variable {P:Program} {ops:Array Oper} {Q:Exit→Act→World→Prop}
def CV (ops:Array Oper):Array Bool→List Nat→Prop
 | T,[]=>Region.ready .any ops T=[]
 | T,k::L=>k∈Region.ready .any ops T∧CV ops (T.setIfInBounds k true) L
theorem lin_acc:∀ (fuel t:Nat) (T:Array Bool),Region.linearise.go .any ops (fuel+1) t T [] =
  match (Region.ready .any ops T)[t % (Region.ready .any ops T).length]? with
  | some i=>i::Region.linearise.go .any ops fuel (t / (Region.ready .any ops T).length) (T.setIfInBounds i true) []
  | none=>[]:=by
 intro fuel t T
 simp only [Region.linearise.go]
 change (match (Region.ready .any ops T)[t % (Region.ready .any ops T).length]? with
   | some i=>Region.linearise.go .any ops fuel (t / (Region.ready .any ops T).length) (T.setIfInBounds i true) [i]
   | none=>[].reverse)=_
 cases (Region.ready .any ops T)[t % (Region.ready .any ops T).length]? with
 | none=>rfl
 | some i=>simp only [];rw [linearise_go_acc];rfl
theorem ready_full {T:Array Bool} (hT:T.size=ops.size) (h:unl ops T=0):Region.ready .any ops T=[]:=by
 rw [List.eq_nil_iff_forall_not_mem]
 intro i hi
 obtain ⟨h1,o,ho,_⟩:=mem_ready.1 hi
 have hio:=(Array.getElem?_eq_some_iff.1 ho).1
 rw [getD_both (by omega)] at h1
 have:=unl_pos hio h1
 omega
theorem cv_lin (hE:edgesOk ops.toList=true):∀ (fuel t:Nat) (T:Array Bool),T.size=ops.size→unl ops T≤fuel→CV ops T (Region.linearise.go .any ops fuel t T [])
 | 0,t,T,hT,hu=>by
  simp only [Region.linearise.go,List.reverse_nil,CV]
  exact ready_full hT (by omega)
 | fuel+1,t,T,hT,hu=>by
  rw [lin_acc]
  cases hi:(Region.ready .any ops T)[t % (Region.ready .any ops T).length]? with
  | none =>
   simp only [CV]
   cases hr:Region.ready .any ops T with
   | nil=>rfl
   | cons x xs =>
    rw [hr] at hi
    have hlt:t % (x::xs).length<(x::xs).length:=Nat.mod_lt _ (by simp)
    simp at hi
    simp at hlt
    omega
  | some i =>
   have hm:=List.mem_of_getElem? hi
   obtain ⟨h1,o,ho,_⟩:=mem_ready.1 hm
   have hio:=(Array.getElem?_eq_some_iff.1 ho).1
   rw [getD_both (by omega)] at h1
   exact ⟨hm,cv_lin hE fuel _ _ (by simpa using hT) (by have:=unl_set hT hio h1;omega)⟩
theorem cv_wp:∀ (L:List Nat) (fuel:Nat) (T:Array Bool) (a:Act) (w:World),wpAny P .any ops Q fuel T a w→CV ops T L→wpOps P ops Q L a w
 | [],fuel,T,a,w,h,hc=>by
  simp only [wpOps]
  cases fuel with
  | zero=>exact h.2
  | succ f=>exact h.1 hc
 | k::L,fuel,T,a,w,h,hc=>by
  cases fuel with
  | zero=>have:=hc.1;rw [h.1] at this;cases this
  | succ f =>
   rw [wpOps_cons]
   exact wpOp_mono (fun a w hh=>cv_wp L f _ a w hh hc.2) (h.2 k hc.1)
def Bef (i j:Nat):Array Bool→List Nat→Prop
 | _,[]=>True
 | T,k::L=>(k=j→T.getD i false=true)∧Bef i j (T.setIfInBounds k true) L
theorem bef_true {i j:Nat}:∀ (L:List Nat) (T:Array Bool),T.getD i false=true→Bef i j T L
 | [],_,_=>trivial
 | _::L,_,h=>⟨fun _=>h,bef_true L _ (getD_set_true h)⟩
theorem bef_or {i j:Nat} (hij:i≠j):∀ (L:List Nat) (T:Array Bool),(∀ k∈L,k<T.size)→Bef i j T L∨Bef j i T L
 | [],_,_=>.inl trivial
 | k::L,T,h=>by
  have hk:=h k (by simp)
  by_cases h1:k=i
  ·subst h1
   exact .inl ⟨fun h2=>absurd h2 hij,bef_true L _ (getD_set_self hk)⟩
  ·by_cases h2:k=j
   ·subst h2
    exact .inr ⟨fun h3=>absurd h3.symm hij,bef_true L _ (getD_set_self hk)⟩
   ·rcases bef_or hij L (T.setIfInBounds k true) (fun x hx=>by simpa using h x (by simp [hx])) with hh | hh
    ·exact .inl ⟨fun h3=>absurd h3 h2,hh⟩
    ·exact .inr ⟨fun h3=>absurd h3 h1,hh⟩
def upE (i j k:Nat) (o:Oper):Oper:=if j=k then { o with after:=o.after.push ⟨i,.data⟩ } else o
theorem upE_eq {i j:Nat} {o:Oper}:upE i j j o={ o with after:=o.after.push ⟨i,.data⟩ }:=if_pos rfl
theorem upE_ne {i j k:Nat} {o:Oper} (h:j≠k):upE i j k o=o:=if_neg h
theorem upE_dst {i j k:Nat} {o:Oper}:(upE i j k o).dst=o.dst∧(upE i j k o).guard=o.guard:=by unfold upE;split<;>exact ⟨rfl,rfl⟩
theorem addE_get (i j k:Nat):(addE i j ops)[k]?=(ops[k]?).map (upE i j k):=by
 unfold addE
 rw [Array.getElem?_modify]
 by_cases h:j=k
 ·subst h;simp only [if_true];congr 1;funext o;exact upE_eq.symm
 ·rw [if_neg h]
  cases ops[k]? with
  | none=>rfl
  | some o=>rw [Option.map_some,upE_ne h]
theorem addE_size (i j:Nat):(addE i j ops).size=ops.size:=by simp [addE]
theorem addE_ready {i j k:Nat} {T:Array Bool}:k∈Region.ready .any (addE i j ops) T↔k∈Region.ready .any ops T∧(k=j→T.getD i false=true):=by
 rw [mem_ready,mem_ready]
 constructor
 ·rintro ⟨h0,o,ho,h⟩
  rw [addE_get,Option.map_eq_some_iff] at ho
  obtain ⟨o0,ho0,rfl⟩:=ho
  by_cases hj:j=k
  ·subst hj
   rw [upE_eq] at h
   exact ⟨⟨h0,o0,ho0,fun e he hb=>h e (by simp [he]) hb⟩,fun _=>h ⟨i,.data⟩ (by simp) rfl⟩
  ·rw [upE_ne hj] at h
   exact ⟨⟨h0,o0,ho0,h⟩,fun hk=>absurd hk.symm hj⟩
 ·rintro ⟨⟨h0,o,ho,h⟩,hk⟩
  refine ⟨h0,_,by rw [addE_get,ho];rfl,?_⟩
  by_cases hj:j=k
  ·subst hj
   rw [upE_eq]
   intro e he hb
   simp only [Array.mem_push] at he
   rcases he with he | rfl
   ·exact h e he hb
   ·exact hk rfl
  ·rw [upE_ne hj];exact h
theorem cv_add {i j:Nat}:∀ (L:List Nat) (T:Array Bool),CV ops T L→Bef i j T L→CV (addE i j ops) T L
 | [],T,h,_=>by
  simp only [CV] at h ⊢
  rw [List.eq_nil_iff_forall_not_mem] at h ⊢
  exact fun k hk=>h k (addE_ready.1 hk).1
 | k::L,T,h,hb=>⟨addE_ready.2 ⟨h.1,hb.1⟩,cv_add L _ h.2 hb.2⟩
theorem addE_wpOp {i j k:Nat} {K:Act→World→Prop} {a:Act} {w:World}:wpOp P (addE i j ops) Q k K a w=wpOp P ops Q k K a w:=by
 have hy:∀ tm,yielded (addE i j ops) tm=yielded ops tm:=fun tm=>by
  funext g
  unfold yielded
  rw [addE_get]
  cases ops[g]? with
  | none=>rfl
  | some o=>simp only [Option.map_some,Option.bind_some,upE_dst.1]
 unfold wpOp
 rw [addE_get,hy]
 cases ops[k]? with
 | none=>rfl
 | some o =>
  by_cases h:j=k
  ·subst h;rw [Option.map_some,upE_eq];rfl
  ·rw [Option.map_some,upE_ne h]
theorem addE_wpOps {i j:Nat}:∀ (L:List Nat) (a:Act) (w:World),wpOps P (addE i j ops) Q L a w↔wpOps P ops Q L a w
 | [],a,w=>by simp only [wpOps]
 | k::L,a,w=>by
  rw [wpOps_cons,wpOps_cons,addE_wpOp]
  exact ⟨wpOp_mono fun a w=>(addE_wpOps L a w).1,wpOp_mono fun a w=>(addE_wpOps L a w).2⟩
def Lin (P:Program) (ops:Array Oper) (Q:Exit→Act→World→Prop) (a:Act) (w:World):Prop:=∀ L,CV ops (Array.replicate ops.size false) L→wpOps P ops Q L a w
theorem lin_of_any {a:Act} {w:World} (h:wpAny P .any ops Q ops.size (Array.replicate ops.size false) a w):Lin P ops Q a w:=fun L hc=>cv_wp L _ _ a w h hc
theorem cv_lt:∀ (L:List Nat) (T:Array Bool),CV ops T L→∀ k∈L,k<ops.size
 | [],_,_,k,hk=>by cases hk
 | x::L,T,h,k,hk=>by
  obtain ⟨_,o,ho,_⟩:=mem_ready.1 h.1
  rcases List.mem_cons.1 hk with rfl | hk
  ·exact (Array.getElem?_eq_some_iff.1 ho).1
  ·exact cv_lt L _ h.2 k hk
theorem lin_two {i j:Nat} {a:Act} {w:World} (hij:i≠j) (h1:Lin P (addE i j ops) Q a w) (h2:Lin P (addE j i ops) Q a w):Lin P ops Q a w:=fun L hcv=>by
 have e1:∀ i j,Array.replicate (addE i j ops).size false=Array.replicate ops.size false:=fun i j=>by rw [addE_size]
 rcases bef_or hij L (Array.replicate ops.size false) (fun k hk=>by simpa using cv_lt L _ hcv k hk) with hb | hb
 ·exact (addE_wpOps L a _).1 (h1 L (by rw [e1];exact cv_add L _ hcv hb))
 ·exact (addE_wpOps L a _).1 (h2 L (by rw [e1];exact cv_add L _ hcv hb))
theorem wp_region_lin {id:Nat} {a:Act} {w:World} (hm:P.follows .mixedOrders=true) (hE:edgesOk ops.toList=true) (h:Lin P ops Q a { w with drawn:=w.drawn+1 }):(Code.region id ops true).wp P Q a w :=
 wp_region_draw fun t=>by
  simp only [Region.schedule,hm,Bool.true_or,if_true]
  exact h _ (cv_lin hE _ _ _ (by simp) (by unfold unl;exact Nat.le_trans (List.countP_le_length) (by simp)))
theorem perm_lin {l:List Nat} (h:permOk l ops.size=true) (hg:guardsOk ops.size ops.toList=true) (hE:edgesIn ops=true) {a:Act} {w:World} (hw:Lin P (permO l ops) Q a w):Lin P ops Q a w:=by
 obtain ⟨h1,h2,h3⟩:=permOk_get h
 generalize hn:ops.size=n at h1 h2 h3
 have hs':(permO l ops).size=n:=by rw [permO_size,h1]
 have he:∀ (j:Nat) (o:Oper) (e:Edge),ops[j]?=some o→e∈o.after→Region.binds .any e=true→e.on<n:=fun j o e ho hem hb=>by
  simp only [edgesIn,List.all_eq_true] at hE
  have:=hE o (by rw [← Array.mem_def];exact Array.mem_of_getElem? ho) e (by simpa using hem)
  simp only [hb,Bool.not_true,Bool.false_or,decide_eq_true_eq] at this
  omega
 have hops:∀ (j:Nat) (o:Oper),ops[j]?=some o→(permO l ops)[posOf l j]?=some (renum (posOf l) o):=fun j o ho=>permO_get h ho
 have hgd:∀ (j:Nat) (o:Oper) (i:Nat) (b:Bool),ops[j]?=some o→o.guard=some (i,b)→i<n:=fun j o i b ho hgu=>by
  simp only [guardsOk,List.all_eq_true] at hg
  have:=hg o (by rw [← Array.mem_def];exact Array.mem_of_getElem? ho)
  rw [hgu] at this
  rw [← hn];simpa using this
 have hinj:∀ i j,i<n→j<n→posOf l i=posOf l j→i=j:=fun i j hi hj hij=>by rw [← (h2 i hi).2,← (h2 j hj).2,hij]
 have rdy:∀ (T T':Array Bool),T.size=n→T'.size=n→(∀ j,j<n→T.getD j false=T'.getD (posOf l j) false)→∀ j,j<n→(j∈Region.ready .any ops T↔posOf l j∈Region.ready .any (permO l ops) T'):=by
  intro T T' h1 h2' hT j hj
  have hoj:ops[j]?=some ops[j]:=Array.getElem?_eq_getElem (by omega)
  rw [mem_ready,mem_ready,getD_both (T:=T) (i:=j) (by omega) true,getD_both (T:=T') (i:=posOf l j) (by have:=(h2 j hj).1;omega) true,hT j hj,hoj,hops j _ hoj]
  refine and_congr Iff.rfl ⟨?_,?_⟩
  ·rintro ⟨o,ho,h⟩
   cases ho
   refine ⟨_,rfl,fun e hem hb=>?_⟩
   simp only [renum,Array.mem_map] at hem
   obtain ⟨e0,he0,rfl⟩:=hem
   have hb0:Region.binds .any e0=true:=hb
   have:=h e0 he0 hb0
   rwa [hT _ (he j _ e0 hoj he0 hb0)] at this
  ·rintro ⟨o,ho,h⟩
   cases ho
   refine ⟨_,rfl,fun e hem hb=>?_⟩
   have:=h { e with on:=posOf l e.on } (by simp only [renum,Array.mem_map];exact ⟨e,hem,rfl⟩) hb
   rwa [hT _ (he j _ e hoj hem hb)]
 have op:∀ (j:Nat) (K:Act→World→Prop) (a:Act) (w:World),j<n→wpOp P (permO l ops) Q (posOf l j) K a w→wpOp P ops Q j K a w:=by
  intro j K a w hjn hw
  have hoj:ops[j]?=some ops[j]:=Array.getElem?_eq_getElem (by omega)
  generalize ops[j]=o at hoj
  have hyl:∀ i,i<n→∀ tm,yielded (permO l ops) tm (posOf l i)=yielded ops tm i:=fun i hi tm=>by
   have hoi:ops[i]?=some ops[i]:=Array.getElem?_eq_getElem (by omega)
   unfold yielded
   rw [hoi,hops i _ hoi]
   rfl
  have hwant:∀ tm,Region.wanted (renum (posOf l) o) (yielded (permO l ops) tm)=Region.wanted o (yielded ops tm):=fun tm=>by
   unfold Region.wanted
   cases hgu:o.guard with
   | none=>simp [renum,hgu]
   | some g =>
    obtain ⟨i,b⟩:=g
    simp only [renum,hgu,Option.map_some]
    rw [hyl i (hgd j o i b hoj hgu)]
  unfold wpOp at hw ⊢
  rw [hops j o hoj] at hw
  rw [hoj]
  simp only at hw ⊢
  rw [hwant] at hw
  by_cases hwn:Region.wanted o (yielded ops a.tmps)=true
  ·rw [if_pos hwn] at hw ⊢
   rw [renum_wp,renum_asks] at hw
   exact hw
  ·rw [if_neg hwn] at hw ⊢
   exact hw
 have ops_:∀ (L:List Nat) (a:Act) (w:World),(∀ k∈L,k<n)→wpOps P (permO l ops) Q (L.map (posOf l)) a w→wpOps P ops Q L a w:=by
  intro L
  induction L with
  | nil=>intro a w _ hw;exact hw
  | cons k L ih =>
   intro a w hk hw
   rw [List.map_cons,wpOps_cons] at hw
   rw [wpOps_cons]
   exact op k _ a w (hk k (by simp)) (wpOp_mono (fun a w hh=>ih a w (fun x hx=>hk x (by simp [hx])) hh) hw)
 have cv:∀ (L:List Nat) (T T':Array Bool),T.size=n→T'.size=n→(∀ j,j<n→T.getD j false=T'.getD (posOf l j) false)→CV ops T L→CV (permO l ops) T' (L.map (posOf l)):=by
  intro L
  induction L with
  | nil =>
   intro T T' t1 t2 hT hc
   simp only [CV,List.map_nil] at hc ⊢
   rw [List.eq_nil_iff_forall_not_mem] at hc ⊢
   intro i hi
   obtain ⟨_,x,hx,_⟩:=mem_ready.1 hi
   have hin:=(Array.getElem?_eq_some_iff.1 hx).1
   have hp:=h3 i (by omega)
   have:=(rdy T T' t1 t2 hT (l.getD i n) hp.1).2 (by rw [hp.2];exact hi)
   exact hc _ this
  | cons k L ih =>
   intro T T' t1 t2 hT hc
   have hkn:k<n:=by have:=cv_lt (k::L) T hc k (by simp);omega
   refine ⟨(rdy T T' t1 t2 hT k hkn).1 hc.1,ih _ _ (by simpa using t1) (by simpa using t2) (fun i hi=>?_) hc.2⟩
   by_cases hij:k=i
   ·subst hij
    rw [getD_set_self (by omega),getD_set_self (by have:=(h2 k hkn).1;omega)]
   ·rw [setT_ne hij,setT_ne (fun hc=>hij (hinj _ _ hkn hi hc)),hT i hi]
 intro L hL
 rw [hn] at hL
 refine ops_ L a w (fun k hk=>by have:=cv_lt L _ hL k hk;omega) (hw _ ?_)
 rw [hs']
 exact cv L _ _ (by simp) (by simp) (fun j hj=>by have:=(h2 j hj).1;simp [Array.getD,hj,this]) hL
theorem addE_edges {i j:Nat} (hE:edgesIn ops=true) (hi:i<ops.size):edgesIn (addE i j ops)=true:=by
 simp only [edgesIn,List.all_eq_true] at hE ⊢
 rw [addE_size]
 intro o ho e he
 obtain ⟨k,hk⟩:=List.mem_iff_getElem?.1 ho
 have hk':(addE i j ops)[k]?=some o:=by simpa using hk
 rw [addE_get,Option.map_eq_some_iff] at hk'
 obtain ⟨o0,ho0,rfl⟩:=hk'
 have h0:=hE o0 (by rw [← Array.mem_def];exact Array.mem_of_getElem? ho0)
 by_cases hj:j=k
 ·subst hj
  rw [upE_eq] at he
  simp only [Array.toList_push,List.mem_append,List.mem_singleton] at he
  rcases he with he | rfl
  ·exact h0 e he
  ·simp [hi]
 ·rw [upE_ne hj] at he
  exact h0 e he
theorem addE_guards {i j:Nat} (hg:guardsOk ops.size ops.toList=true):guardsOk (addE i j ops).size (addE i j ops).toList=true:=by
 simp only [guardsOk,List.all_eq_true] at hg ⊢
 rw [addE_size]
 intro o ho
 obtain ⟨k,hk⟩:=List.mem_iff_getElem?.1 ho
 have hk':(addE i j ops)[k]?=some o:=by simpa using hk
 rw [addE_get,Option.map_eq_some_iff] at hk'
 obtain ⟨o0,ho0,rfl⟩:=hk'
 have:=hg o0 (by rw [← Array.mem_def];exact Array.mem_of_getElem? ho0)
 rw [upE_dst.2]
 exact this
end
end Go.D3
