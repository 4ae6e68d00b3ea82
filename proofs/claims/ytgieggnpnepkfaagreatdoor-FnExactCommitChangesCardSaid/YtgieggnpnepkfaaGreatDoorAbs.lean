/- PARTS ARE TAKEN OUT OF OBJECTS: 'takeK','absK','absL'. Generic. -/
import Derived.Test.YtgieggnpnepkfaaGreatDoorCall
namespace Go.D3
open Go
theorem nth_setN:∀ (l:List D) (i j:Nat) (x:D),nth (setN l i x) j=if j=i∧i<l.length then x else nth l j
 | [],i,j,x=>by simp [setN]
 | a::l,0,0,x=>by simp [setN,nth]
 | a::l,0,j+1,x=>by simp [setN,nth]
 | a::l,i+1,0,x=>by simp [setN,nth]
 | a::l,i+1,j+1,x=>by simp [setN,nth,nth_setN l i j x]
theorem nth_killL (q:D→Bool):∀ (l:List D) (i:Nat),nth (killL q l) i=(nth l i).kill q
 | [],_=>rfl
 | _::_,0=>rfl
 | _::l,i+1=>nth_killL q l i
theorem setN_length:∀ (l:List D) (i:Nat) (x:D),(setN l i x).length=l.length
 | [],_,_=>rfl
 | _::_,0,_=>rfl
 | _::l,i+1,x=>by simp [setN,setN_length l i x]
theorem killL_length (q:D→Bool) (l:List D):(killL q l).length=l.length:=by simp [killL_map]
def St.wf (st:St):Prop:=st.tmp.length=st.n
def St.in (st:St) (k:Nat):Prop:=(k<1000∧k<st.env.length)∨(1000≤k∧k<1000+st.n)
theorem St.cont_kill (st:St) (q:D→Bool):(st.kill q).cont=fun k=>(st.cont k).kill q:=by
 funext k
 show (if k<1000 then nth (killL q st.env) k else if k<1000+st.n then nth (killL q st.tmp) (999+st.n-k) else D.dead)=(if k<1000 then nth st.env k else if k<1000+st.n then nth st.tmp (999+st.n-k) else D.dead).kill q
 by_cases h:k<1000
 ·rw [if_pos h,if_pos h];exact nth_killL q _ _
 ·rw [if_neg h,if_neg h]
  by_cases h':k<1000+st.n
  ·rw [if_pos h',if_pos h'];exact nth_killL q _ _
  ·rw [if_neg h',if_neg h'];rfl
theorem St.kill_dd {st:St} {i:Nat} (q:D→Bool) (h:st.cont i=.dead):(st.kill q).cont i=.dead:=by
 rw [St.cont_kill]
 show (st.cont i).kill q=.dead
 rw [h];rfl
theorem nth_over:∀ (l:List D) (i:Nat),l.length≤i→nth l i=.dead
 | [],_,_=>rfl
 | a::l,0,h=>by simp at h
 | a::l,i+1,h=>nth_over l i (by simpa using h)
theorem St.cont_out {st:St} {k:Nat} (hk:¬ st.in k):st.cont k=.dead:=by
 simp only [St.in,not_or,not_and] at hk
 simp only [St.cont]
 split
 ·rename_i h;exact nth_over _ _ (by have:=hk.1 h;omega)
 ·split
  ·rename_i h h';exact absurd h' (hk.2 (by omega))
  ·rfl
theorem St.cont_put_in {st:St} (hw:st.wf) {k:Nat} (hk:st.in k) (c:D):(st.put k c).cont=upd st.cont k c:=by
 have hw':st.tmp.length=st.n:=hw
 funext j
 simp only [upd]
 rcases hk with ⟨h1,h2⟩ | ⟨h1,h2⟩
 ·simp only [St.put,if_pos h1,St.cont]
  by_cases hj:j<1000
  ·simp only [if_pos hj,nth_setN]
   by_cases hjk:j=k
   ·simp [hjk,h2]
   ·simp [hjk]
  ·simp only [if_neg hj]
   rw [if_neg (show ¬ j=k by omega)]
 ·simp only [St.put,if_neg (show ¬ k<1000 by omega),if_pos h2,St.cont]
  by_cases hj:j<1000
  ·simp only [if_pos hj]
   rw [if_neg (show ¬ j=k by omega)]
  ·simp only [if_neg hj]
   by_cases hjn:j<1000+st.n
   ·simp only [if_pos hjn,nth_setN]
    by_cases hjk:j=k
    ·subst hjk
     rw [if_pos ⟨rfl,by omega⟩,if_pos rfl]
    ·rw [if_neg (by omega),if_neg hjk]
   ·simp only [if_neg hjn]
    rw [if_neg (show ¬ j=k by omega)]
theorem St.cont_put_out {st:St} {k:Nat} (hk:¬ st.in k) (c:D):(st.put k c).cont=st.cont:=by
 simp only [St.in,not_or,not_and] at hk
 funext j
 simp only [St.put]
 split
 ·rename_i h
  simp only [St.cont]
  split
  ·rw [nth_setN,if_neg]
   intro hh;exact absurd hh.2 (hk.1 h)
  ·rfl
 ·split
  ·rename_i h h';exact absurd h' (hk.2 (by omega))
  ·rfl
theorem St.cont_push {st:St} (hw:st.wf) (c:D):(st.push c).cont=upd st.cont (1000+st.n) c:=by
 have hw':st.tmp.length=st.n:=hw
 funext j
 show (if j<1000 then nth st.env j else if j<1000+(st.n+1) then nth (c::st.tmp) (999+(st.n+1)-j) else D.dead)=if j=1000+st.n then c else if j<1000 then nth st.env j else if j<1000+st.n then nth st.tmp (999+st.n-j) else D.dead
 by_cases hj:j<1000
 ·rw [if_pos hj,if_pos hj,if_neg (show ¬ j=1000+st.n by omega)]
 ·rw [if_neg hj,if_neg hj]
  by_cases hjn:j=1000+st.n
  ·subst hjn
   rw [if_pos rfl,if_pos (by omega),show 999+(st.n+1)-(1000+st.n)=0 by omega];rfl
  ·rw [if_neg hjn]
   by_cases hlt:j<1000+st.n
   ·rw [if_pos hlt,if_pos (by omega),show 999+(st.n+1)-j=(999+st.n-j)+1 by omega];rfl
   ·rw [if_neg hlt,if_neg (by omega)]
theorem St.wf_kill {st:St} (h:st.wf) (q:D→Bool):(st.kill q).wf:=by simpa [St.wf,St.kill,killL_length] using h
theorem St.wf_put {st:St} (h:st.wf) (k:Nat) (c:D):(st.put k c).wf:=by
 unfold St.put
 split
 ·exact h
 ·split
  ·simpa [St.wf,setN_length] using h
  ·exact h
theorem St.wf_push {st:St} (h:st.wf) (c:D):(st.push c).wf:=by simpa [St.wf,St.push] using h
theorem St.n_put (st:St) (k:Nat) (c:D):(st.put k c).n=st.n:=by by_cases h:k<1000<;>by_cases h':k<1000+st.n<;>simp [St.put,h,h']
section
variable {cx:Ctx} {vl:Nat→Value} {fp:Nat→Nat→Prop} {G:Nat→Prop} {w:World} {A:Nat→Prop}
theorem kill_dat (q:D→Bool) {c:D} {p:Path} (hp:c.hasS p) (hne:p≠[]):(c.kill q).dat p=c.dat p∧(c.kill q).hasS p:=by
 obtain ⟨h1,h2⟩:=hp
 refine ⟨?_,(kill_keep (w:=default) q c undef p h1).1,fun hl=>(kill_at_o q h1 hl).2 (h2 (kill_at_o q h1 hl).1)⟩
 cases c<;>try exact h1.elim
 case o x=>rfl
 case row z l=>exact absurd h1 hne
 case box l =>
  cases p with
  | nil=>exact absurd rfl hne
  | cons s p =>
   obtain ⟨i,off⟩:=s
   have key:∀ y,l.getD off .dead=.o y→(D.kill q (.box l)).dat ((i,off)::p)=(D.box l).dat ((i,off)::p):=by
    intro y hy
    have e1:D.kid (.box (killL q l)) i off=.o y:=by
     show (killL q l).getD off .dead=_
     rw [killL_getD,hy];rfl
    have e2:D.kid (.box l) i off=.o y:=hy
    simp only [D.dat,D.kill,D.at,e1,e2]
   cases p with
   | nil =>
    obtain ⟨y,hy⟩:=isO_some (h2 rfl)
    exact key y hy
   | cons t p =>
    obtain ⟨_,_,hp⟩:=h1
    simp only at hp
    split at hp
    ·rename_i y hy;exact key y hy
    ·exact hp.elim
def keepT (k:Nat) (p:Path) (q:D):Prop:=apartR k p q∨(p≠[]∧qDeep k p q=false)
structure Tk (cx:Ctx) (w:World) (vl:Nat→Value) (st:St) (fp:Nat→Nat→Prop) (G:Nat→Prop) (st':St) (fp':Nat→Nat→Prop) (G':Nat→Prop) (F:Nat→Prop):Prop where
 hp:Hp cx st'.cont vl fp' G' w
 hF:∀ b,F b→G' b∧¬ G b
 hG:∀ b,G b→G' b
 hst:∀ b,stab cx fp G w b→stab cx fp' G' w b
 n:st'.n=st.n
 wf:st'.wf
 dd:∀ j,st.cont j=.dead→st'.cont j=.dead
theorem keepR.trans {w1 w2 w3:World} {c1 c2 c3:Nat→D} {v1 v2 v3:Nat→Value} {q:D} (h:keepR w1 w2 c1 c2 v1 v2 q) (h':keepR w2 w3 c2 c3 v2 v3 q):keepR w1 w3 c1 c3 v1 v3 q:=by
 cases q<;>first | trivial | (intro hp;obtain ⟨a,b⟩:=h hp;obtain ⟨c,d⟩:=h' a;exact ⟨c,d.trans b⟩)
theorem keep_kill (ct:Nat→D) (q:D→Bool) (r:D):keepR w w ct (fun k=>(ct k).kill q) vl vl r:=by
 cases r<;>try trivial
 case sub k p=>exact fun hp=>⟨⟨(kill_keep (w:=w) q (ct k) (vl k) p hp.1).1,fun hl=>(kill_at_o q hp.1 hl).2 (hp.2 (kill_at_o q hp.1 hl).1)⟩,(kill_keep q (ct k) (vl k) p hp.1).2.1⟩
 case adr k p=>exact fun hp=>⟨(kill_keep (w:=w) q (ct k) (vl k) p hp).1,(kill_keep q (ct k) (vl k) p hp).2.2⟩
theorem cellAt_mem {L:List D} {sz j:Nat} {x:D} (h:cellAt L sz j=some x):∃ e∈L,x∈e.cells:=by
 unfold cellAt at h
 cases hL:L[j / sz]? with
 | none=>rw [hL] at h;cases h
 | some d=>rw [hL,Option.bind_some] at h;exact ⟨d,List.mem_of_getElem? hL,List.mem_of_getElem? h⟩
theorem plC_own {ct:Nat→D} {A:Nat→Prop} {v:Value} {c x:D} (h:Pl w A (RefOk w ct vl) v c) (hx:c.plC=some x):Own w A v x fun _=>False:=by
 cases c<;>simp only [D.plC,reduceCtorEq,Option.some.injEq] at hx<;>subst hx
 case int=>obtain ⟨rfl,h1⟩:=pl_int h;exact .int h1
 case bool=>have:=pl_bool h;subst this;exact .bool
 case str=>obtain ⟨rfl,h1⟩:=pl_str h;exact .str h1
 case slice=>exact .vw (pl_slice h)
 case ptr=>exact .vw (pl_rd h (by simp) (by simp) (by simp) (by simp) (by simp))
 case nilp=>have:=pl_rd h (by simp) (by simp) (by simp) (by simp) (by simp);cases this;exact .nilp
 case nils=>have:=pl_rd h (by simp) (by simp) (by simp) (by simp) (by simp);cases this;exact .nil
theorem plC_cells {e y:D} (h:e.plC=some y):e.cells=[e]∧y.cells=[y]:=by
 cases e<;>simp only [D.plC,reduceCtorEq,Option.some.injEq] at h<;>subst h<;>exact ⟨rfl,rfl⟩
theorem plT_cells {e y:D} (h:e.plT=some y):y.cells.length=e.cells.length∧∀ (i:Nat) (d:D),y.cells[i]?=some d→∃ c,e.cells[i]?=some c∧c.plC=some d:=by
 have hc:e.plC=some y→y.cells.length=e.cells.length∧∀ (i:Nat) (d:D),y.cells[i]?=some d→∃ c,e.cells[i]?=some c∧c.plC=some d:=fun hh=>by
  obtain ⟨h1,h2⟩:=plC_cells hh
  rw [h1,h2]
  refine ⟨rfl,fun i d hd=>?_⟩
  cases i with
  | zero=>simp only [List.getElem?_cons_zero,Option.some.injEq] at hd;subst hd;exact ⟨e,rfl,hh⟩
  | succ i=>simp at hd
 cases e
 case agg l =>
  simp only [D.plT,Option.bind_eq_some_iff,Option.some.injEq] at h
  obtain ⟨l',h1,rfl⟩:=h
  exact mapO_get h1
 all_goals exact hc h
theorem tk_own {ct:Nat→D} {A:Nat→Prop} {v:Value} {F:Nat→Prop} {c x:D} (h:ContOk w A (RefOk w ct vl) v F c) (hx:c.tk?=some x):Own w A v x F:=by
 cases c<;>simp only [D.tk?,reduceCtorEq,Option.some.injEq] at hx
 case o y=>subst hx;exact h
 case row z l =>
  rw [Option.bind_eq_some_iff] at hx
  obtain ⟨l',hm,hx⟩:=hx
  injection hx with hx;subst hx
  obtain ⟨hl,hg⟩:=mapO_get hm
  obtain ⟨b,sz,cs,e,rfl,h2,h3,h4,h5,h6,h7,h8,h9⟩:=h
  rw [← hl] at h3 h4 ⊢
  refine .slice (fun _ _=>False) h2 (by omega) (Nat.le_refl _) h4 h5 h6 (fun y hy=>?_) (fun j d hj=>?_) h9 (fun _ _ hh=>hh.elim) (fun _ _ _ _ hh=>hh.elim)
  ·obtain ⟨i,hi⟩:=List.getElem?_of_mem hy
   obtain ⟨e',he,ht⟩:=hg i y hi
   rw [(plT_cells ht).1]
   exact h7 e' (List.mem_of_getElem? he)
  ·unfold cellAt at hj
   cases hq:l'[j / sz]? with
   | none=>rw [hq] at hj;cases hj
   | some y =>
    rw [hq,Option.bind_some] at hj
    obtain ⟨e',he,ht⟩:=hg _ _ hq
    obtain ⟨c,hc,hp⟩:=(plT_cells ht).2 _ _ hj
    have hcell:cellAt l sz j=some c:=by unfold cellAt;rw [he,Option.bind_some];exact hc
    rw [Nat.zero_add]
    exact plC_own (h8 j c hcell).1 hp
theorem take_sound' {k:Nat} {p:Path} {K:D→St→Prop} {st:St} (hK:takeK k p K st) (h:Hp cx st.cont vl fp G w) (hw:st.wf) {v:Value} (hs:(st.cont k).hasS p) (hv:valAt w (vl k) (st.cont k) p=some v) :
  ∃ x st' fp' G' F,K x st'∧Tk cx w vl st fp G st' fp' G' F∧Own w (stab cx fp' G' w) v x F∧∀ q,keepT k p q→keepR w w st.cont st'.cont vl vl q:=by
 have hin:st.in k:=by
  by_cases hin:st.in k
  ·exact hin
  ·rw [St.cont_out hin] at hs;exact hs.1.elim
 cases p with
 | nil =>
  simp only [takeK] at hK
  have hkok:=h.ok k
  cases hc:(st.cont k).tk? with
  | none=>rw [hc] at hK;exact hK.elim
  | some x =>
   rw [hc] at hK
   replace hkok:=tk_own hkok hc
   simp only [optVC] at hK
   simp only [valAt,Option.some.injEq] at hv
   subst hv
   have h1:=h.kill (qInto k)
   have h2:=h1.drop k (fun j=>refs_mono (fun d hd=>by cases d<;>simp_all [qInto,notInto]) (kill_refs (qInto k) (st.cont j))) (vl k)
   have ev:upd vl k (vl k)=vl:=by funext j;simp only [upd];split<;>simp_all
   rw [ev] at h2
   have ec:((st.kill (qInto k)).put k .dead).cont=upd (fun j=>(st.cont j).kill (qInto k)) k .dead:=by
    rw [St.cont_put_in (St.wf_kill hw _) (by simpa [St.in,St.kill,killL_length] using hin),St.cont_kill]
   rw [← ec] at h2
   have hst:∀ b,stab cx fp G w b→stab cx (upd fp k fun _=>False) (fun b=>G b∨fp k b) w b:=by
    rintro b ⟨h1,h2,h3⟩
    refine ⟨h1,fun hg=>hg.elim h2 (h3 k),fun j hj=>?_⟩
    by_cases hjk:j=k
    ·subst hjk;rw [upd_same] at hj;exact hj
    ·rw [upd_ne _ _ hjk] at hj;exact h3 j hj
   refine ⟨x,_,_,_,fp k,hK,⟨h2,fun b hb=>⟨.inr hb,h.disG k b hb⟩,fun b hb=>.inl hb,hst,?_,St.wf_put (St.wf_kill hw _) _ _,fun j hj=>by
    rw [ec]
    by_cases hjk:j=k
    ·subst hjk;exact upd_same _ _ _
    ·rw [upd_ne _ _ hjk,hj];rfl⟩,Own.mono hkok hst (fun _ _=>rfl) (fun _ _=>rfl) (fun _ h=>h),fun q hq=>?_⟩
   ·rw [St.n_put];rfl
   ·rcases hq with hq | ⟨hq,_⟩
    ·refine (keep_kill st.cont (qInto k) q).trans ?_
     rw [ec]
     cases q<;>try trivial
     all_goals
      rename_i j r
      intro hp
      have hj:j≠k:=hq.resolve_right (by simp [apart])
      simp only [upd_ne _ _ hj]
      exact ⟨hp,trivial⟩
    ·exact absurd rfl hq
 | cons s p =>
  simp only [takeK] at hK
  have hne:s::p≠[]:=by simp
  generalize hP:s::p=P at hK hne hs hv
  obtain ⟨kd,ks⟩:=kill_dat (qDeep k P) hs hne
  have h1:=h.kill (qDeep k P)
  have hkv:=(kill_keep (w:=w) (qDeep k P) (st.cont k) (vl k) P hs.1).2.1
  obtain ⟨u,F1,F2,g1,g2,g3,g4,g5,g6⟩:=h1.take ks hne (fun j=>kill_refs (qDeep k P) (st.cont j))
  have hu:u=v:=by rw [hkv,hv] at g1;injection g1 with g1;exact g1.symm
  subst hu
  rw [kd] at g2
  have ec:((st.kill (qDeep k P)).put k (((st.kill (qDeep k P)).cont k).hole P)).cont=upd (fun j=>(st.cont j).kill (qDeep k P)) k (((st.cont k).kill (qDeep k P)).setAt P (hol ((st.cont k).kill (qDeep k P)) P)):=by
   rw [St.cont_put_in (St.wf_kill hw _) (by simpa [St.in,St.kill,killL_length] using hin),St.cont_kill]
   rfl
  rw [← ec] at g4 g6
  have hst:∀ b,stab cx fp G w b→stab cx (upd fp k F2) (fun b=>G b∨F1 b) w b:=by
   rintro b ⟨h1,h2,h3⟩
   refine ⟨h1,fun hg=>hg.elim h2 fun hh=>h3 k (g3 b hh),fun j hj=>?_⟩
   by_cases hjk:j=k
   ·subst hjk;rw [upd_same] at hj;exact h3 _ (g5 b hj)
   ·rw [upd_ne _ _ hjk] at hj;exact h3 j hj
  refine ⟨_,_,_,_,F1,hK,⟨g4,fun b hb=>⟨.inr hb,h.disG k b (g3 b hb)⟩,fun b hb=>.inl hb,hst,?_,St.wf_put (St.wf_kill hw _) _ _,fun j hj=>by
   rw [ec]
   have hjk:j≠k:=by rintro rfl;rw [hj] at hs;exact hs.1.elim
   rw [upd_ne _ _ hjk,hj];rfl⟩,Own.mono g2 hst (fun _ _=>rfl) (fun _ _=>rfl) (fun _ h=>h),fun q hq=>?_⟩
  ·rw [St.n_put];rfl
  ·refine (keep_kill st.cont (qDeep k P) q).trans ?_
   rcases hq with hq | ⟨_,hq⟩
   ·rw [ec]
    have hko:=h1.ok k
    cases q<;>try trivial
    case sub j r =>
     rintro ⟨hp1,hp2⟩
     by_cases hj:j=k
     ·subst hj
      simp only [upd_same]
      obtain ⟨a1,a2,a3,a4⟩:=apart_cont hko ks.1 hp1 (hq.resolve_left (by simp)) (okAtC_hol ks.1 hne)
      exact ⟨⟨a1,fun hl=>by rw [a3];rw [a2] at hl;exact hp2 hl⟩,(a4 w).1⟩
     ·simp only [upd_ne _ _ hj]
      exact ⟨⟨hp1,hp2⟩,trivial⟩
    case adr j r =>
     intro hp1
     by_cases hj:j=k
     ·subst hj
      simp only [upd_same]
      obtain ⟨a1,a2,a3,a4⟩:=apart_cont hko ks.1 hp1 (hq.resolve_left (by simp)) (okAtC_hol ks.1 hne)
      exact ⟨a1,(a4 w).2⟩
     ·simp only [upd_ne _ _ hj]
      exact ⟨hp1,trivial⟩
   ·exact g6 q hq
theorem take_sound {k:Nat} {p:Path} {K:D→St→Prop} {st:St} (hK:takeK k p K st) (h:Hp cx st.cont vl fp G w) (hw:st.wf) {v:Value} (hr:RefOk w st.cont vl v (.sub k p)) :
  ∃ x st' fp' G' F,K x st'∧Tk cx w vl st fp G st' fp' G' F∧Own w (stab cx fp' G' w) v x F∧∀ q,keepT k p q→keepR w w st.cont st'.cont vl vl q :=
 take_sound' hK h hw hr.1 hr.2.1
theorem hasS_up {c:D} {p:Path} (h:c.hasC (p++[(0,0)])):c.hasS p:=by
 cases c<;>try (exact h.elim)
 case o x=>exact ⟨((has_append x p _).1 h).1,fun hl=>by cases hl⟩
 case row z l=>cases p<;>cases h
 case box l =>
  match p,h with
  | [],_=>exact ⟨trivial,fun hl=>by cases hl⟩
  | [(i,off)],h =>
   obtain ⟨h1,h2,h3⟩:=h
   refine ⟨⟨h1,h2,trivial⟩,fun _=>?_⟩
   show (l.getD off .dead).isO=true
   revert h3
   show (match l.getD off .dead with | .o y=>y.has [(0,0)] | _=>False)→_
   cases l.getD off .dead<;>first | exact fun h=>h.elim | exact fun _=>rfl
  | (i,off)::s::r,h =>
   obtain ⟨h1,h2,h3⟩:=h
   refine ⟨⟨h1,h2,?_⟩,fun hl=>by cases hl⟩
   revert h3
   show (match l.getD off .dead with | .o y=>y.has (s::(r++[(0,0)])) | _=>False)→(match l.getD off .dead with | .o y=>y.has (s::r) | _=>False)
   cases l.getD off .dead<;>first | exact fun h=>h.elim | skip
   rename_i y
   exact fun h=>((has_append y (s::r) [(0,0)]).1 h).1
theorem takeP_sound {k:Nat} {q:Path} {K:D→St→Prop} {st:St} (hz:lastZ q=true) (hK:takeK k (upP q) (fun d st=>d.isPt=true∧K d st) st) (h:Hp cx st.cont vl fp G w) (hw:st.wf) {v:Value} (hr:AdrOk w st.cont vl v k q) :
  ∃ x st' fp' G' F,K x st'∧Tk cx w vl st fp G st' fp' G' F∧Own w (stab cx fp' G' w) v x F:=by
 rw [lastZ_up hz] at hr
 obtain ⟨hc,a,ha,rfl⟩:=hr
 rw [adrAt_append w (upP q) [(0,0)] _ _ (by simp),Option.bind_eq_some_iff] at ha
 obtain ⟨u,hu,ha⟩:=ha
 obtain ⟨x,st',fp',G',F,⟨h1,h2⟩,h3,h4,_⟩:=take_sound' hK h hw (hasS_up hc) hu
 refine ⟨x,st',fp',G',F,h2,h3,?_⟩
 have key:u=.pointer (some a):=by
  have hub:∃ b,u=.pointer (some ⟨b,0,none⟩):=by cases h4<;>first | exact ⟨_,rfl⟩ | cases h1
  obtain ⟨b,rfl⟩:=hub
  have ha:kidAT (.pointer (some ⟨b,0,none⟩)) ((st.cont k).at (upP q)).un 0 0=some a:=ha
  generalize ((st.cont k).at (upP q)).un=y at ha
  cases y<;>simp only [kidAT] at ha<;>first | (cases ha;rfl) | cases ha
 rw [← key]
 exact h4
theorem refs_forall {ι:Type} {Q:ι→D→Prop} {r:D} (h:∀ i,r.refs (Q i)):r.refs fun d=>∀ i,Q i d:=by
 induction r using D.ind with
 | agg l ih | tup l ih | box l ih | fn _ l ih=>exact refsL_iff.2 fun x hx=>ih x hx fun i=>refsL_iff.1 (h i) x hx
 | row z l _ ih=>exact refsL_iff.2 fun x hx=>ih x hx fun i=>refsL_iff.1 (h i) x hx
 | when g x ih=>exact ih h
 | sub k p=>exact h
 | adr k p=>exact h
 | pre k p n=>exact h
 | _=>trivial
theorem refs_swap {T:D→D→Prop} {r:D} (x:D) (h:x.refs fun s=>r.refs (T s)):r.refs fun q=>x.refs fun s=>T s q:=by
 have list:∀ l:List D,(∀ y∈l,y.refs (fun s=>r.refs (T s))→r.refs fun q=>y.refs fun s=>T s q)→refsL (fun s=>r.refs (T s)) l→r.refs fun q=>refsL (fun s=>T s q) l:=by
  intro l ih h
  have:=refs_forall (ι:={y // y∈l}) (Q:=fun i q=>i.1.refs fun s=>T s q) (r:=r) fun i=>ih i.1 i.2 (refsL_iff.1 h i.1 i.2)
  exact refs_mono (fun d hd=>refsL_iff.2 fun y hy=>hd ⟨y,hy⟩) this
 induction x using D.ind with
 | agg l ih | tup l ih | box l ih | fn _ l ih=>exact list l ih h
 | row z l _ ih=>exact list l ih h
 | when g x ih=>exact ih h
 | sub k p=>exact h
 | adr k p=>exact h
 | pre k p n=>exact h
 | _=>exact refs_all (fun _=>trivial) r
def keepS (s q:D):Prop :=
 match s with
 | .sub k p=>keepT k p q
 | _=>True
theorem safeR_keep {r:List D} {s:D} (h:safeR r s):(D.agg r).refs (keepS s):=by
 cases s<;>first | exact refs_all (fun _=>trivial) _ | skip
 exact refs_mono (fun d hd=>.inl hd) (show (D.agg r).refs _ from h)
theorem refs_and {Q Q':D→Prop} {r:D} (h:r.refs Q) (h':r.refs Q'):r.refs fun d=>Q d∧Q' d:=by
 have:=refs_forall (ι:=Bool) (Q:=fun i d=>match i with | true=>Q d | false=>Q' d) (r:=r) (fun i=>by cases i<;>assumption)
 exact refs_mono (fun d hd=>⟨hd true,hd false⟩) this
theorem Pl.keep {ct ct':Nat→D} {vl vl':Nat→Value} {A':Nat→Prop} {w':World} {v:Value} {d:D} (h:Pl w A (RefOk w ct vl) v d) (hA:∀ b,A b→A' b) (hw:∀ b,A b→w'.heap[b]?=w.heap[b]?) (hk:d.refs (keepR w w' ct ct' vl vl')):Pl w' A' (RefOk w' ct' vl') v d :=
 h.mono (Q:=keepR w w' ct ct' vl vl') hA hw hk fun _ _ hq hr=>hr.keep hq
theorem Tk.refl {st:St} (h:Hp cx st.cont vl fp G w) (hw:st.wf):Tk cx w vl st fp G st fp G fun _=>False :=
 ⟨h,fun _ h=>h.elim,fun _ h=>h,fun _ h=>h,rfl,hw,fun _ h=>h⟩
theorem Tk.trans {st1 st2 st3:St} {fp1 fp2 fp3:Nat→Nat→Prop} {G1 G2 G3 F F':Nat→Prop} (h:Tk cx w vl st1 fp1 G1 st2 fp2 G2 F) (h':Tk cx w vl st2 fp2 G2 st3 fp3 G3 F'):Tk cx w vl st1 fp1 G1 st3 fp3 G3 fun b=>F b∨F' b :=
 ⟨h'.hp,fun b hb=>hb.elim (fun hb=>⟨h'.hG b (h.hF b hb).1,(h.hF b hb).2⟩) fun hb=>⟨(h'.hF b hb).1,fun hg=>(h'.hF b hb).2 (h.hG b hg)⟩,fun b hb=>h'.hG b (h.hG b hb),fun b hb=>h'.hst b (h.hst b hb),h'.n.trans h.n,h'.wf,fun j hj=>h'.dd j (h.dd j hj)⟩
mutual
theorem abs_sound:∀ (d:D) {K:D→St→Prop} {st:St} {fp:Nat→Nat→Prop} {G:Nat→Prop} {v:Value},absK d K st→Hp cx st.cont vl fp G w→st.wf→(∀ b,A b→stab cx fp G w b)→Pl w A (RefOk w st.cont vl) v d →
  ∃ x st' fp' G' F,K x st'∧Tk cx w vl st fp G st' fp' G' F∧Own w (stab cx fp' G' w) v x F∧(x.isAgg=false→v.oneCell'=true)∧(x.isAgg=d.isAgg∧x.cells.length=d.cells.length)∧∀ q,d.refs (fun s=>keepS s q)→keepR w w st.cont st'.cont vl vl q
 | d,K,st,fp,G,v,hK,h,hw,hA,hv=>by
  have hkeep:∀ q,keepR w w st.cont st.cont vl vl q:=fun q=>by cases q<;>first | trivial | exact fun hp=>⟨hp,rfl⟩
  have leaf:∀ x,K x st→Own w (stab cx fp G w) v x (fun _=>False)→(x.isAgg=false→v.oneCell'=true)→(x.isAgg=d.isAgg∧x.cells.length=d.cells.length)→∃ x st' fp' G' F,K x st'∧Tk cx w vl st fp G st' fp' G' F∧Own w (stab cx fp' G' w) v x F∧(x.isAgg=false→v.oneCell'=true)∧(x.isAgg=d.isAgg∧x.cells.length=d.cells.length)∧∀ q,d.refs (fun s=>keepS s q)→keepR w w st.cont st'.cont vl vl q :=
   fun x hx ho h1 h2=>⟨x,st,fp,G,_,hx,.refl h hw,ho,h1,h2,fun q _=>hkeep q⟩
  match d,hK,hv,leaf with
  | .int k n,hK,hv,leaf =>
   obtain ⟨rfl,h1⟩:=pl_int hv
   exact leaf _ (by simpa only [absK] using hK) (.int h1) (fun _=>rfl) ⟨rfl,rfl⟩
  | .bool b,hK,hv,leaf =>
   have:=pl_bool hv
   subst this
   exact leaf _ (by simpa only [absK] using hK) .bool (fun _=>rfl) ⟨rfl,rfl⟩
  | .str s,hK,hv,leaf =>
   obtain ⟨rfl,h1⟩:=pl_str hv
   exact leaf _ (by simpa only [absK] using hK) (.str h1) (fun _=>rfl) ⟨rfl,rfl⟩
  | .nilp,hK,hv,leaf =>
   have:=pl_rd hv (by simp) (by simp) (by simp) (by simp) (by simp)
   cases this
   exact leaf _ (by simpa only [absK] using hK) .nilp (fun _=>rfl) ⟨rfl,rfl⟩
  | .fn f [],hK,hv,leaf =>
   obtain ⟨cs,rfl,hs,_⟩:=pl_fn hv
   have:cs=#[]:=by simpa using hs
   subst this
   exact leaf _ (by simpa only [absK] using hK) .fn (fun _=>rfl) ⟨rfl,rfl⟩
  | .sub k p,hK,hv,leaf =>
   simp only [absK] at hK
   obtain ⟨x,st',fp',G',F,h1,h2,h3,h4⟩:=take_sound hK h hw (pl_sub hv)
   obtain ⟨_,_,⟨_,_,_,rfl⟩ | ⟨_,rfl⟩⟩:=pl_sub hv
   ·have hag:x.isAgg=false:=by cases h3<;>rfl
    exact ⟨x,st',fp',G',F,h1,h2,h3,fun _=>rfl,⟨hag,by rw [D.cells_one hag];rfl⟩,fun q hq=>h4 q hq⟩
   ·have hag:x.isAgg=false:=by cases h3<;>rfl
    exact ⟨x,st',fp',G',F,h1,h2,h3,fun _=>rfl,⟨hag,by rw [D.cells_one hag];rfl⟩,fun q hq=>h4 q hq⟩
  | .slice z l,hK,hv,leaf =>
   have:=pl_slice hv
   exact leaf _ (by simpa only [absK] using hK) (.vw (this.mono hA fun _ _=>rfl)) (fun _=>by cases this<;>rfl) ⟨rfl,rfl⟩
  | .ptr l,hK,hv,leaf =>
   have:=pl_rd hv (by simp) (by simp) (by simp) (by simp) (by simp)
   exact leaf _ (by simpa only [absK] using hK) (.vw (this.mono hA fun _ _=>rfl)) (fun _=>by cases this<;>rfl) ⟨rfl,rfl⟩
  | .nils z,hK,hv,leaf =>
   have:=pl_rd hv (by simp) (by simp) (by simp) (by simp) (by simp)
   cases this
   exact leaf _ (by simpa only [absK] using hK) .nil (fun _=>rfl) ⟨rfl,rfl⟩
  | .nmp,hK,hv,leaf =>
   have:=pl_rd hv (by simp) (by simp) (by simp) (by simp) (by simp)
   cases this
   exact leaf _ (by simpa only [absK] using hK) .nmp (fun _=>rfl) ⟨rfl,rfl⟩
  | .nifc,hK,hv,leaf =>
   have:=pl_rd hv (by simp) (by simp) (by simp) (by simp) (by simp)
   cases this
   exact leaf _ (by simpa only [absK] using hK) .nifc (fun _=>rfl) ⟨rfl,rfl⟩
  | .ifc t x,hK,hv,leaf =>
   have:=pl_rd hv (by simp) (by simp) (by simp) (by simp) (by simp)
   cases this with
   | ifc h=>exact leaf _ (by simpa only [absK] using hK) (.ifc (h.mono hA fun _ _=>rfl)) (fun _=>rfl) ⟨rfl,rfl⟩
  | .mp _ _,hK,_,_=>simp only [absK] at hK
  | .itr _ _,hK,_,_=>simp only [absK] at hK
  | .sent _,hK,_,_=>simp only [absK] at hK
  | .agg l,hK,hv,leaf =>
   simp only [absK] at hK
   obtain ⟨cs,rfl,hs,hc⟩:=pl_agg hv
   obtain ⟨l',st',fp',G',Fs,h1,h2,h3,h4,h5,h6⟩:=absL_sound l hK h hw hA hc
   exact ⟨_,st',fp',G',_,h1,h2,.agg Fs (by rw [hs,h3]) (fun j x hx=>(h4 j x hx).1) (fun j c hc=>⟨j,hc⟩) h5,(fun h=>by simp [D.isAgg] at h),⟨rfl,h3⟩,h6⟩
  | .fn f (c::r),hK,hv,leaf =>
   simp only [absK] at hK
   have:=bare_rd hv hK.1
   exact leaf _ hK.2 (.vw (this.mono hA fun _ _=>rfl)) (fun _=>by cases this;rfl) ⟨rfl,rfl⟩
  | .tup _,hK,_,_=>simp only [absK] at hK
  | .vw _,hK,_,_=>simp only [absK] at hK
  | .o _,hK,_,_=>simp only [absK] at hK
  | .box _,hK,_,_=>simp only [absK] at hK
  | .row _ _,hK,_,_=>simp only [absK] at hK
  | .adr _ _,hK,_,_=>simp only [absK] at hK
  | .pre _ _ _,hK,_,_=>simp only [absK] at hK
  | .when _ _,hK,_,_=>simp only [absK] at hK
  | .dead,hK,_,_=>simp only [absK] at hK
theorem absL_sound:∀ (l:List D) {K:List D→St→Prop} {st:St} {fp:Nat→Nat→Prop} {G:Nat→Prop} {vs:Array Value},absL l K st→Hp cx st.cont vl fp G w→st.wf→(∀ b,A b→stab cx fp G w b) →
  (∀ (j:Nat) (x:D),l[j]?=some x→Pl w A (RefOk w st.cont vl) (vs.getD j undef) x) →
  ∃ (l':List D) (st':St) (fp':Nat→Nat→Prop) (G':Nat→Prop) (Fs:Nat→Nat→Prop),K l' st'∧Tk cx w vl st fp G st' fp' G' (fun b=>∃ j,Fs j b)∧l'.length=l.length∧(∀ (j:Nat) (x:D),l'[j]?=some x→Own w (stab cx fp' G' w) (vs.getD j undef) x (Fs j)∧(x.isAgg=false→(vs.getD j undef).oneCell'=true)∧∃ d,l[j]?=some d∧x.isAgg=d.isAgg∧x.cells.length=d.cells.length)∧(∀ i j b,i≠j→Fs i b→¬ Fs j b) ∧
   ∀ q,refsL (fun s=>keepS s q) l→keepR w w st.cont st'.cont vl vl q
 | [],K,st,fp,G,vs,hK,h,hw,hA,hv=>by
  simp only [absL] at hK
  have hkeep:∀ q,keepR w w st.cont st.cont vl vl q:=fun q=>by cases q<;>first | trivial | exact fun hp=>⟨hp,rfl⟩
  exact ⟨[],st,fp,G,fun _ _=>False,hK,⟨h,fun _ ⟨_,h⟩=>h.elim,fun _ h=>h,fun _ h=>h,rfl,hw,fun _ h=>h⟩,rfl,fun j x hx=>by simp at hx,fun _ _ _ _ h=>h.elim,fun q _=>hkeep q⟩
 | y::r,K,st,fp,G,vs,hK,h,hw,hA,hv=>by
  simp only [absL] at hK
  obtain ⟨hsafe,hK⟩:=hK
  obtain ⟨x,st1,fp1,G1,F1,h1,h2,h3,h3',h3'',h4⟩:=abs_sound y hK h hw hA (hv 0 y rfl)
  have hkr:=refs_swap y (refs_mono (fun s hs=>safeR_keep hs) hsafe)
  have hrest:∀ (j:Nat) (x:D),r[j]?=some x→Pl w A (RefOk w st1.cont vl) ((vs.extract 1 vs.size).getD j undef) x:=by
   intro j x hx
   have h5:=hv (j+1) x (by simpa using hx)
   have e:(vs.extract 1 vs.size).getD j undef=vs.getD (j+1) undef:=by
    simp only [Array.getD_eq_getD_getElem?,Array.getElem?_extract]
    by_cases hj:j<min vs.size vs.size-1
    ·rw [if_pos hj,Nat.add_comm]
    ·rw [if_neg hj,Array.getElem?_eq_none (by omega)]
   rw [e]
   exact h5.keep (fun _ h=>h) (fun _ _=>rfl) (refs_mono (fun q hq=>h4 q hq) (refsL_iff.1 hkr x (List.mem_of_getElem? hx)))
  obtain ⟨l',st',fp',G',Fs,k1,k2,k3,k4,k5,k6⟩:=absL_sound r h1 h2.hp h2.wf (fun b hb=>h2.hst b (hA b hb)) hrest
  have htk:=h2.trans k2
  refine ⟨x::l',st',fp',G',fun j=>match j with | 0=>F1 | j+1=>Fs j,k1,⟨htk.hp,fun b ⟨j,hj⟩=>htk.hF b ?_,htk.hG,htk.hst,htk.n,htk.wf,htk.dd⟩,by simp [k3],fun j x' hx'=>?_,fun i j b hij hi hj=>?_,fun q hq=>?_⟩
  ·cases j with
   | zero=>exact .inl hj
   | succ j=>exact .inr ⟨j,hj⟩
  ·cases j with
   | zero=>simp at hx';subst hx';exact ⟨h3.mono k2.hst (fun _ _=>rfl) (fun _ _=>rfl) fun _ h=>h,h3',y,rfl,h3''⟩
   | succ j =>
    have:=k4 j x' (by simpa using hx')
    have e:(vs.extract 1 vs.size).getD j undef=vs.getD (j+1) undef:=by
     simp only [Array.getD_eq_getD_getElem?,Array.getElem?_extract]
     by_cases hj:j<min vs.size vs.size-1
     ·rw [if_pos hj,Nat.add_comm]
     ·rw [if_neg hj,Array.getElem?_eq_none (by omega)]
    rw [e] at this
    exact this
  ·cases i with
   | zero=>cases j with
    | zero=>exact hij rfl
    | succ j=>exact (k2.hF b ⟨j,hj⟩).2 (h2.hF b hi).1
   | succ i=>cases j with
    | zero=>exact (k2.hF b ⟨i,hi⟩).2 (h2.hF b hj).1
    | succ j=>exact k5 i j b (by omega) hi hj
  ·exact (h4 q hq.1).trans (k6 q hq.2)
end
end
end Go.D3
