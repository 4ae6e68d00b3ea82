/- CHANGES INSIDE ONE OBJECT: a part is taken out,a cell is written. Generic. -/
import Derived.Test.YtgieggnpnepkfaaGreatDoorHeap
namespace Go.D3
open Go
def PartOk (w:World) (A:Nat→Prop) (R:Value→D→Prop) (v:Value) (F:Nat→Prop) (lvl:Bool) (y:D):Prop :=
 match lvl with
 | true=>CellOk w A R v F y
 | false=>Own w A v y F
def okAtC:D→Path→D→Prop
 | .o x,p,y=>okAt x p y
 | .box _,[_],_=>True
 | .box l,(_,off)::p,y=>okAt (l.getD off .dead).un p y
 | _,_,_=>False
theorem D.at_o {w:World} {A:Nat→Prop} {v:Value} {x:D} {F:Nat→Prop} (h:Own w A v x F) {p:Path} (hp:p≠[]):(D.o x).at p=x.at p:=by
 cases p with
 | nil=>exact absurd rfl hp
 | cons s p =>
  obtain ⟨hu,_⟩:=h.un
  simp only [D.at,D.kid,hu];rfl
theorem D.setAt_o {w:World} {A:Nat→Prop} {v:Value} {x:D} {F:Nat→Prop} (h:Own w A v x F) {p:Path} (hp:p≠[]) (y:D):(D.o x).setAt p y=.o (x.setAt p y):=by
 cases p with
 | nil=>exact absurd rfl hp
 | cons s p =>
  obtain ⟨hu,hs⟩:=h.un
  obtain ⟨i,off⟩:=s
  simp only [D.setAt,D.kid,hu,hs];rfl
theorem box_set {w w':World} {A A':Nat→Prop} {R R':Value→D→Prop} {Q:D→Prop} {l:List D} {b off:Nat} {cs cs':Array Value} {e:TypeId} {Fs:Nat→Nat→Prop} {y:D} {F1' F':Nat→Prop}
  (h3:cs.size=l.length) (h4:∀ j c,l[j]?=some c→CellOk w A R (cs.getD j undef) (Fs j) c) (h6:∀ j c,Fs j c→c≠b) (h7:∀ i j c,i≠j→Fs i c→¬ Fs j c) (ho:off<l.length)
  (hA:∀ b,A b→A' b) (hwA:∀ b,A b→w'.heap[b]?=w.heap[b]?) (hw:∀ c,(∃ j,j≠off∧Fs j c)→w'.heap[c]?=w.heap[c]?) (hb:w'.heap[b]?=some (.cells cs' e (0,0))) (hcs:cs'.size=cs.size) (hcs':∀ j,j≠off→cs'.getD j undef=cs.getD j undef)
  (hy:CellOk w' A' R' (cs'.getD off undef) F1' y) (hd:∀ c,F1' c→¬ (c=b∨∃ j,j≠off∧Fs j c)) (h1:∀ c,F1' c→F' c) (h2:∀ c,(c=b∨∃ j,j≠off∧Fs j c)→F' c)
  (hq:∀ x∈l,x.refs Q) (hR:∀ v d,d.refs Q→R v d→R' v d):BoxOk w' A' R' (.pointer (some ⟨b,0,none⟩)) F' (l.set off y):=by
 refine ⟨by rw [List.length_set];omega,b,cs',e,fun j c=>if j=off then F1' c else Fs j c,rfl,hb,by simp [hcs,h3],fun j c hj=>?_,h2 b (.inl rfl),fun j c hj=>?_,fun p q c hpq hp hq'=>?_⟩
 ·by_cases hjo:j=off
  ·subst hjo
   rw [List.getElem?_set_self ho] at hj
   injection hj with hj
   subst hj
   simpa using hy
  ·rw [List.getElem?_set_ne (Ne.symm hjo)] at hj
   simp only [if_neg hjo,hcs' j hjo]
   exact (h4 j c hj).mono hA hwA (fun c hc=>hw c ⟨j,hjo,hc⟩) (fun _ h=>h) (hq c (List.mem_of_getElem? hj)) hR
 ·dsimp only at hj
  split at hj
  ·exact ⟨fun hcb=>hd c hj (.inl hcb),h1 c hj⟩
  ·rename_i hne;exact ⟨h6 j c hj,h2 c (.inr ⟨j,hne,hj⟩)⟩
 ·dsimp only at hp hq'
  split at hp<;>split at hq'
  ·omega
  ·rename_i hq'';exact hd c hp (.inr ⟨q,hq'',hq'⟩)
  ·rename_i hp' _;exact hd c hq' (.inr ⟨p,hp',hp⟩)
  ·exact h7 p q c hpq hp hq'
theorem ContOk.splitAt {w:World} {A:Nat→Prop} {R:Value→D→Prop} {v:Value} {c:D} {F:Nat→Prop} {p:Path} (h:ContOk w A R v F c) (hp:c.hasC p) (hne:p≠[]) :
  ∃ (u:Value) (F1 F2:Nat→Prop),valAt w v c p=some u∧PartOk w A R u F1 (cellLvl c p) (c.at p)∧(∀ b,F1 b→F b)∧(∀ b,F2 b→F b)∧(∀ b,F1 b→¬ F2 b) ∧
   (∀ (w':World) (A':Nat→Prop) (R':Value→D→Prop) (Q:D→Prop) (y:D) (F1' F':Nat→Prop),(∀ b,A b→A' b)→(∀ b,A b→w'.heap[b]?=w.heap[b]?)→(∀ b,F2 b→w'.heap[b]?=w.heap[b]?)→PartOk w' A' R' u F1' (cellLvl c p) y→(∀ b,F1' b→¬ F2 b) →
     okAtC c p y→(∀ b,F1' b→F' b)→(∀ b,F2 b→F' b)→c.refs Q→(∀ v d,d.refs Q→R v d→R' v d)→ContOk w' A' R' v F' (c.setAt p y)) ∧
   (∀ a,adrAt w v c p=some a→F2 a.block∧a.spot=none∧w.cell? a=some u∧w.frozen? a=false ∧
     ∀ (u':Value) (w':World) (A':Nat→Prop) (R':Value→D→Prop) (Q:D→Prop) (y:D) (F1' F':Nat→Prop),(∀ b,A b→A' b)→(∀ b,A b→w'.heap[b]?=w.heap[b]?)→(∀ b,F2 b→b≠a.block→w'.heap[b]?=w.heap[b]?) →
      w'.heap[a.block]?=(w.setCell a u').heap[a.block]?→PartOk w' A' R' u' F1' (cellLvl c p) y→(∀ b,F1' b→¬ F2 b) →
      okAtC c p y→(∀ b,F1' b→F' b)→(∀ b,F2 b→F' b)→c.refs Q→(∀ v d,d.refs Q→R v d→R' v d)→ContOk w' A' R' v F' (c.setAt p y)):=by
 cases c<;>try exact hp.elim
 case row z l=>exact absurd hp hne
 case o x =>
  obtain ⟨u,F1,F2,g1,g2,g3,g4,g5,g6,g7⟩:=Own.splitAt p h hp
  obtain ⟨a1,a2⟩:=valAt_o h w p
  have hl:cellLvl (.o x) p=false:=rfl
  refine ⟨u,F1,F2,a1.trans g1,?_,g3,g4,g5,?_,?_⟩
  ·rw [hl,D.at_o h hne];exact g2
  ·intro w' A' R' Q y F1' F' hA hwA hw hy hd hok h1 h2 _ _
   rw [D.setAt_o h hne]
   exact g6 w' A' y F1' F' hA hwA hw hy hd hok h1 h2
  ·intro a ha
   rw [a2] at ha
   obtain ⟨j1,j2,j3,j3',j4⟩:=g7 a ha
   refine ⟨j1,j2,j3,j3',fun u' w' A' R' Q y F1' F' hA hwA hw hwb hy hd hok h1 h2 _ _=>?_⟩
   rw [D.setAt_o h hne]
   exact j4 u' w' A' y F1' F' hA hwA hw hwb hy hd hok h1 h2
 case box l =>
  cases p with
  | nil=>exact absurd rfl hne
  | cons s p =>
   obtain ⟨i,off⟩:=s
   obtain ⟨_,b,cs,e,Fs,h1,h2,h3,h4,h5,h6,h7⟩:=h
   obtain ⟨rfl,ho,hp⟩:=hp
   subst h1
   have hsize:off<cs.size:=by omega
   have hcell:kidV w (.pointer (some ⟨b,0,none⟩)) (.box l) 0 off=some (cs.getD off undef):=by
    show w.cell? ⟨b,0+off,none⟩=_
    rw [Nat.zero_add]
    exact cell_own h2 hsize
   have hget:l[off]?=some (l.getD off .dead):=by
    rw [List.getD_eq_getElem?_getD,List.getElem?_eq_getElem ho];rfl
   have hcok:=h4 off _ hget
   have hk:D.kid (.box l) 0 off=l.getD off .dead:=rfl
   have hrest:∀ c,(c=b∨∃ j,j≠off∧Fs j c)→F c:=by
    rintro c (rfl | ⟨j,_,hj⟩)
    ·exact h5
    ·exact (h6 j c hj).2
   have hdis0:∀ c,Fs off c→¬ (c=b∨∃ j,j≠off∧Fs j c):=by
    rintro c hc (rfl | ⟨j,hne,hj⟩)
    ·exact (h6 _ _ hc).1 rfl
    ·exact h7 _ _ c (Ne.symm hne) hc hj
   cases p with
   | nil =>
    refine ⟨cs.getD off undef,Fs off,(fun c=>c=b∨∃ j,j≠off∧Fs j c),?_,hcok,fun c hc=>(h6 _ c hc).2,hrest,hdis0,?_,?_⟩
    ·simp only [valAt,hcell,Option.bind_some]
    ·intro w' A' R' Q y F1' F' hA hwA hw hy hd _ g1 g2 hq hR
     exact box_set h3 h4 (fun j c hj=>(h6 j c hj).1) h7 ho hA hwA (fun c hc=>hw c (.inr hc)) ((hw b (.inl rfl)).trans h2) rfl (fun _ _=>rfl) hy hd g1 g2 (refsL_iff.1 hq) hR
    ·intro a ha
     simp only [adrAt,kidA,D.un,kidAT,Option.some.injEq,Nat.zero_add] at ha
     subst ha
     refine ⟨.inl rfl,rfl,cell_own h2 hsize,by simp [World.frozen?,h2],fun u' w' A' R' Q y F1' F' hA hwA hw hwb hy hd _ g1 g2 hq hR=>?_⟩
     refine box_set h3 h4 (fun j c hj=>(h6 j c hj).1) h7 ho hA hwA (fun c ⟨j,hne,hj⟩=>hw c (.inr ⟨j,hne,hj⟩) (h6 j c hj).1) (hwb.trans (setCell_block u' h2)) (by simp) (fun j hj=>getD_set_ne _ (Ne.symm hj)) ?_ hd g1 g2 (refsL_iff.1 hq) hR
     rw [getD_set_eq _ hsize]
     exact hy
   | cons t p =>
    simp only at hp
    split at hp
    ·rename_i y0 hy0
     rw [hy0] at hcok hk hget
     simp only [CellOk] at hcok
     obtain ⟨u,F1,F2,g1,g2,g3,g4,g5,g6,g7⟩:=Own.splitAt (t::p) hcok hp
     obtain ⟨a1,a2⟩:=valAt_o hcok w (t::p)
     have hlv:cellLvl (.box l) ((0,off)::t::p)=false:=rfl
     have hat:(D.box l).at ((0,off)::t::p)=y0.at (t::p):=by
      rw [D.at,hk,D.at_o hcok (by simp)]
     have hset:∀ y,(D.box l).setAt ((0,off)::t::p) y=.box (l.set off (.o (y0.setAt (t::p) y))):=by
      intro y;rw [D.setAt,hk,D.setAt_o hcok (by simp)];rfl
     have hokk:∀ y,okAtC (.box l) ((0,off)::t::p) y→okAt y0 (t::p) y:=by
      intro y hy;simpa only [okAtC,hy0,D.un] using hy
     refine ⟨u,F1,fun c=>F2 c∨(c=b∨∃ j,j≠off∧Fs j c),?_,?_,fun c hc=>(h6 _ c (g3 c hc)).2,?_,?_,?_,?_⟩
     ·rw [valAt,hcell,Option.bind_some,hk,a1];exact g1
     ·rw [hlv,hat];exact g2
     ·rintro c (hc | hc)
      ·exact (h6 _ c (g4 c hc)).2
      ·exact hrest c hc
     ·rintro c hc (hc' | hc')
      ·exact g5 c hc hc'
      ·exact hdis0 c (g3 c hc) hc'
     ·intro w' A' R' Q y F1' F' hA hwA hw hy hd hok k1 k2 hq hR
      rw [hset]
      have:=g6 w' A' y F1' (fun c=>F1' c∨F2 c) hA hwA (fun c hc=>hw c (.inl hc)) hy (fun c hc hc'=>hd c hc (.inl hc')) (hokk y hok) (fun _ h=>.inl h) (fun _ h=>.inr h)
      exact box_set (y:=.o (y0.setAt (t::p) y)) (F1':=fun c=>F1' c∨F2 c) h3 h4 (fun j c hj=>(h6 j c hj).1) h7 ho hA hwA (fun c hc=>hw c (.inr (.inr hc))) ((hw b (.inr (.inl rfl))).trans h2) rfl (fun _ _=>rfl) this
       (fun c hc hc'=>hc.elim (fun h=>hd c h (.inr hc')) fun h=>hdis0 c (g4 c h) hc') (fun c hc=>hc.elim (k1 c) fun h=>k2 c (.inl h)) (fun c hc=>k2 c (.inr hc)) (refsL_iff.1 hq) hR
     ·intro a ha
      have ha':adrAt w (cs.getD off undef) y0 (t::p)=some a:=by
       have e:adrAt w (.pointer (some ⟨b,0,none⟩)) (.box l) ((0,off)::t::p)=adrAt w (cs.getD off undef) (.o y0) (t::p):=by
        rw [adrAt,hcell,Option.bind_some,hk]
        simp
       rw [← a2,← e]
       exact ha
      obtain ⟨j1,j2,j3,j3',j4⟩:=g7 a ha'
      refine ⟨.inl j1,j2,j3,j3',fun u' w' A' R' Q y F1' F' hA hwA hw hwb hy hd hok k1 k2 hq hR=>?_⟩
      rw [hset]
      have hab:a.block≠b:=(h6 _ _ (g4 _ j1)).1
      have:=j4 u' w' A' y F1' (fun c=>F1' c∨F2 c) hA hwA (fun c hc hne=>hw c (.inl hc) hne) hwb hy (fun c hc hc'=>hd c hc (.inl hc')) (hokk y hok) (fun _ h=>.inl h) (fun _ h=>.inr h)
      exact box_set (y:=.o (y0.setAt (t::p) y)) (F1':=fun c=>F1' c∨F2 c) h3 h4 (fun j c hj=>(h6 j c hj).1) h7 ho hA hwA
       (fun c ⟨j,hne,hj⟩=>hw c (.inr (.inr ⟨j,hne,hj⟩)) (by rintro rfl;exact h7 _ _ _ (Ne.symm hne) (g4 _ j1) hj)) ((hw b (.inr (.inl rfl)) (Ne.symm hab)).trans h2) rfl (fun _ _=>rfl) this
       (fun c hc hc'=>hc.elim (fun h=>hd c h (.inr hc')) fun h=>hdis0 c (g4 c h) hc') (fun c hc=>hc.elim (k1 c) fun h=>k2 c (.inl h)) (fun c hc=>k2 c (.inr hc)) (refsL_iff.1 hq) hR
    ·exact hp.elim
section
variable {cx:Ctx} {ct:Nat→D} {vl:Nat→Value} {fp:Nat→Nat→Prop} {G:Nat→Prop} {w:World}
theorem Hp.change (h:Hp cx ct vl fp G w) {k:Nat} {c':D} {F' G':Nat→Prop} {w':World} (Q:D→Prop) (hobj:c'.isObj=true)
  (hc:ContOk w' (stab cx fp G w) (RefOk w ct vl) (vl k) F' c') (hrefs:∀ j,j≠k→(ct j).refs Q) (hrefs':c'.refs Q)
  (hF:∀ b,F' b→fp k b∨G b) (hG:∀ b,G' b→fp k b∨G b) (hFG:∀ b,F' b→¬ G' b)
  (hsz:w'.heap.size=w.heap.size) (hw:∀ b,¬ fp k b→w'.heap[b]?=w.heap[b]?) (hos:w'.os=w.os) (htape:w'.tape=w.tape) (hout:w'.output=w.output)
  (hsub:∀ p,Q (.sub k p)→(ct k).hasS p→c'.hasS p∧valAt w' (vl k) c' p=valAt w (vl k) (ct k) p)
  (hadr:∀ p,Q (.adr k p)→(ct k).hasC p→c'.hasC p∧adrAt w' (vl k) c' p=adrAt w (vl k) (ct k) p) :
  Hp cx (upd ct k c') vl (upd fp k F') G' w'∧∀ d,Q d→keepR w w' ct (upd ct k c') vl vl d:=by
 have hst:∀ b,stab cx fp G w b→stab cx (upd fp k F') G' w' b:=by
  rintro b ⟨h1,h2,h3⟩
  refine ⟨⟨by have:=h1.1;omega,h1.2⟩,fun hg=>(hG b hg).elim (h3 k) h2,fun j hj=>?_⟩
  by_cases hjk:j=k
  ·subst hjk;rw [upd_same] at hj;exact (hF b hj).elim (h3 _) h2
  ·rw [upd_ne _ _ hjk] at hj;exact h3 j hj
 have hkeep:∀ d,Q d→keepR w w' ct (upd ct k c') vl vl d:=by
  intro d hd
  cases d<;>try trivial
  case sub j p =>
   intro (hp:(ct j).hasS p)
   by_cases hjk:j=k
   ·subst hjk
    simp only [upd_same]
    exact hsub p hd hp
   ·simp only [upd_ne _ _ hjk]
    exact ⟨hp,(valAt_cont (h.ok j) hp.1 fun b hb=>hw b (h.dis j k hjk b hb)).1⟩
  case adr j p =>
   intro hp
   by_cases hjk:j=k
   ·subst hjk
    simp only [upd_same]
    exact hadr p hd hp
   ·simp only [upd_ne _ _ hjk]
    exact ⟨hp,(valAt_cont (h.ok j) hp fun b hb=>hw b (h.dis j k hjk b hb)).2⟩
 refine ⟨⟨fun j=>?_,fun i j hij b hi hj=>?_,fun j b hj hg=>?_,fun j hj b hb=>?_,fun j b hj=>?_,fun b hb=>?_,by rw [hsz];exact h.size,fun b hb hb0=>?_,hos.trans h.os,htape.trans h.tape,hout.trans h.output⟩,hkeep⟩
 ·by_cases hjk:j=k
  ·subst hjk
   simp only [upd_same]
   exact hc.mono (Q:=Q) hst (fun _ _=>rfl) (fun _ _=>rfl) (fun _ h=>h) hrefs' fun v d hq hr=>hr.keep (refs_mono hkeep hq)
  ·simp only [upd_ne _ _ hjk]
   exact (h.ok j).mono (Q:=Q) hst (fun b hb=>hw b (hb.2.2 k)) (fun b hb=>hw b (h.dis j k hjk b hb)) (fun _ h=>h) (hrefs j hjk) fun v d hq hr=>hr.keep (refs_mono hkeep hq)
 ·by_cases h1:i=k<;>by_cases h2:j=k
  ·omega
  ·subst h1;rw [upd_same] at hi;rw [upd_ne _ _ h2] at hj;exact (hF b hi).elim (h.dis j i (Ne.symm hij) b hj) (h.disG j b hj)
  ·subst h2;rw [upd_same] at hj;rw [upd_ne _ _ h1] at hi;exact (hF b hj).elim (h.dis i j hij b hi) (h.disG i b hi)
  ·rw [upd_ne _ _ h1] at hi;rw [upd_ne _ _ h2] at hj;exact h.dis i j hij b hi hj
 ·by_cases hjk:j=k
  ·subst hjk;rw [upd_same] at hj;exact hFG b hj hg
  ·rw [upd_ne _ _ hjk] at hj;exact (hG b hg).elim (h.dis j k hjk b hj) (h.disG j b hj)
 ·by_cases hjk:j=k
  ·subst hjk;rw [upd_same] at hj;rw [hobj] at hj;cases hj
  ·rw [upd_ne _ _ hjk] at hj hb;exact h.emp j hj b hb
 ·rw [hsz]
  by_cases hjk:j=k
  ·subst hjk;rw [upd_same] at hj;exact (hF b hj).elim (h.lt _ b) (h.ltG b)
  ·rw [upd_ne _ _ hjk] at hj;exact h.lt j b hj
 ·rw [hsz];exact (hG b hb).elim (h.lt k b) (h.ltG b)
 ·by_cases hk:fp k b
  ·have:=(h.lt k b hk).2
   rcases this with h1 | h1
   ·exact absurd h1 hb0
   ·omega
  ·rw [hw b hk];exact h.same b hb hb0
theorem hasKidT_set {x:D} {i off:Nat} {y:D} {i' off':Nat}:(x.setKidT i off y).hasKidT i' off'↔x.hasKidT i' off':=by
 cases x<;>simp [D.setKidT,D.hasKidT]
theorem kidAT_set {v:Value} {x:D} {i off:Nat} {y:D} {i' off':Nat}:kidAT v (x.setKidT i off y) i' off'=kidAT v x i' off':=by
 cases x<;>rfl
theorem setAt_obj {c:D} {p:Path} (hp:c.hasC p) (hne:p≠[]) (y:D):(c.setAt p y).isObj=true:=by
 cases p with
 | nil=>exact absurd rfl hne
 | cons t p =>
  obtain ⟨i,off⟩:=t
  cases c<;>first | rfl | exact hp.elim
theorem refs_setAt {Q:D→Prop} {w:World} {A:Nat→Prop} {R:Value→D→Prop} {v:Value} {c:D} {F:Nat→Prop} (h:ContOk w A R v F c) {p:Path} (hp:c.hasC p) (hne:p≠[]) {y:D} (hc:c.refs Q) (hy:cellLvl c p=true→y.refs Q):(c.setAt p y).refs Q:=by
 cases c<;>try exact hp.elim
 case row z l=>exact absurd hp hne
 case o x=>rw [D.setAt_o h hne];trivial
 case box l =>
  cases p with
  | nil=>exact absurd rfl hne
  | cons t p =>
   obtain ⟨i,off⟩:=t
   have e:(D.box l).setAt ((i,off)::p) y=.box (l.set off (((D.box l).kid i off).setAt p y)):=rfl
   rw [e]
   refine refsL_iff.2 fun x hx=>?_
   rcases List.mem_or_eq_of_mem_set hx with h1 | h1
   ·exact refsL_iff.1 hc x h1
   ·subst h1
    cases p with
    | nil=>exact hy rfl
    | cons s p =>
     obtain ⟨_,ho,hp⟩:=hp
     simp only at hp
     split at hp
     ·rename_i y0 hy0
      have:(D.box l).kid i off=.o y0:=hy0
      rw [this]
      obtain ⟨i',off'⟩:=s
      trivial
     ·exact hp.elim
def D.dat (c:D) (p:Path):D:=(c.at p).un
theorem isO_some {c:D} (h:c.isO=true):∃ y,c=.o y:=by cases c<;>first | exact ⟨_,rfl⟩ | cases h
end
end Go.D3
