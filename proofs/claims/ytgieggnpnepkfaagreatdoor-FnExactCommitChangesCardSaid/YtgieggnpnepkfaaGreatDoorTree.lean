/- TREES: a part is taken out,put in,written. Generic. -/
import Derived.Test.YtgieggnpnepkfaaGreatDoorGlob
namespace Go.D3
open Go
theorem setCell_block {w:World} {b j:Nat} {cs:Array Value} {e:TypeId} {fz:Nat×Nat} (u:Value) (hb:w.heap[b]?=some (.cells cs e fz)) :
  (w.setCell ⟨b,j,none⟩ u).heap[b]?=some (.cells (cs.setIfInBounds j u) e fz):=by
 simp [World.setCell,Array.getElem?_modify,hb]
theorem setCell_other {w:World} {a:Addr} {c:Nat} (u:Value) (h:c≠a.block):(w.setCell a u).heap[c]?=w.heap[c]?:=by
 simp only [World.setCell,Array.getElem?_modify]
 rw [if_neg (Ne.symm h)]
theorem getD_set_eq {cs:Array Value} {j:Nat} (u:Value) (h:j<cs.size):(cs.setIfInBounds j u).getD j undef=u:=by
 simp [h]
theorem getD_set_ne {cs:Array Value} {i j:Nat} (u:Value) (h:i≠j):(cs.setIfInBounds i u).getD j undef=cs.getD j undef:=by
 simp [Array.getElem?_setIfInBounds_ne h]
theorem Own.split {w:World} {A:Nat→Prop} {v:Value} {x:D} {F:Nat→Prop} (h:Own w A v x F) {i off:Nat} (hk:x.hasKidT i off) :
  ∃ (u:Value) (F1 F2:Nat→Prop),kidVT w v x i off=some u∧Own w A u (x.kidT i off) F1∧(∀ b,F1 b→F b)∧(∀ b,F2 b→F b)∧(∀ b,F1 b→¬ F2 b) ∧
   (∀ (w':World) (A':Nat→Prop) (y:D) (F1' F':Nat→Prop),(∀ b,A b→A' b)→(∀ b,A b→w'.heap[b]?=w.heap[b]?)→(∀ b,F2 b→w'.heap[b]?=w.heap[b]?)→Own w' A' u y F1'→(∀ b,F1' b→¬ F2 b) →
     x.okKidT i y→(∀ b,F1' b→F' b)→(∀ b,F2 b→F' b)→Own w' A' v (x.setKidT i off y) F') ∧
   (∀ a,kidAT v x i off=some a→F2 a.block∧a.spot=none∧w.cell? a=some u∧w.frozen? a=false ∧
     ∀ (u':Value) (w':World) (A':Nat→Prop) (y:D) (F1' F':Nat→Prop),(∀ b,A b→A' b)→(∀ b,A b→w'.heap[b]?=w.heap[b]?)→(∀ b,F2 b→b≠a.block→w'.heap[b]?=w.heap[b]?) →
      w'.heap[a.block]?=(w.setCell a u').heap[a.block]?→Own w' A' u' y F1'→(∀ b,F1' b→¬ F2 b) →
      x.okKidT i y→(∀ b,F1' b→F' b)→(∀ b,F2 b→F' b)→Own w' A' v (x.setKidT i off y) F'):=by
 cases h with
 | int _ | bool | str _ | nilp | fn | vw _ | dead | mp _ _ _ | nmp | ifc _ | nifc | itr _ _ _=>exact hk.elim
 | nil=>simp [D.hasKidT] at hk
 | @slice z L b o cap sz cs e fz F Fs hb hroom hc hm hz hzz hsz hr hF hfs hdis =>
  obtain ⟨hi,ho⟩:=hk
  rw [hzz] at ho
  have hcell:=cellAt_kid hzz hsz hi ho
  have hj:i*sz+off<L.length*sz:=cellAt_lt hz hcell
  have hcap:L.length*sz≤cap*sz:=Nat.mul_le_mul_right _ hc
  have hsize:o+(i*sz+off)<cs.size:=by omega
  have hset:∀ (w':World) (A':Nat→Prop) (y:D) (F1' F':Nat→Prop) (cs':Array Value),(∀ b,A b→A' b)→(∀ b,A b→w'.heap[b]?=w.heap[b]?) →
    (∀ c,(c=b∨∃ j,j≠i*sz+off∧Fs j c)→c≠b→w'.heap[c]?=w.heap[c]?)→w'.heap[b]?=some (.cells cs' e fz)→cs'.size=cs.size→(∀ j,j≠i*sz+off→cs'.getD (o+j) undef=cs.getD (o+j) undef) →
    Own w' A' (cs'.getD (o+(i*sz+off)) undef) y F1'→(∀ c,F1' c→¬ (c=b∨∃ j,j≠i*sz+off∧Fs j c)) →
    okCell (L.getD i z) y→(∀ b,F1' b→F' b)→(∀ c,(c=b∨∃ j,j≠i*sz+off∧Fs j c)→F' c)→Own w' A' (.slice (some ⟨b,o,none⟩) L.length cap) ((D.slice z L).setKidT i off y) F':=by
   intro w' A' y F1' F' cs' hA hwA hw hb' hsz' hcs hy hd hag h1 h2
   have key:=Own.slice (w:=w') (A:=A') (z:=z) (L:=L.set i (setc (L.getD i z) off y)) (b:=b) (off:=o) (cap:=cap) (sz:=sz) (cs:=cs') (e:=e) (F:=F')
    (fun j c=>if j=i*sz+off then F1' c else Fs j c) hb' (by omega) (by simpa using hc) hm hz hzz (set_sizes hsz hag hi ho)
    (fun j x hx=>by
      rw [cellAt_set hzz hsz hag hi ho] at hx
      by_cases hji:j=i*sz+off
      ·rw [if_pos hji] at hx
       injection hx with hx
       subst hx;subst hji
       simpa using hy
      ·rw [if_neg hji] at hx
       simp only [if_neg hji,hcs j hji]
       exact (hr j x hx).mono hA hwA (fun c hc'=>hw c (.inr ⟨j,hji,hc'⟩) (hfs j c hc').1) fun _ h=>h)
    (h2 b (.inl rfl))
    (fun j c hj'=>by
      split at hj'
      ·exact ⟨fun hcb=>hd c hj' (.inl hcb),h1 c hj'⟩
      ·rename_i hji
       exact ⟨(hfs j c hj').1,h2 c (.inr ⟨j,hji,hj'⟩)⟩)
    (fun p q c hpq hp hq=>by
      split at hp<;>split at hq
      ·omega
      ·rename_i hq';exact hd c hp (.inr ⟨q,hq',hq⟩)
      ·rename_i hp' _;exact hd c hq (.inr ⟨p,hp',hp⟩)
      ·exact hdis p q c hpq hp hq)
   rw [List.length_set] at key
   exact key
  refine ⟨cs.getD (o+(i*sz+off)) undef,Fs (i*sz+off),(fun c=>c=b∨∃ j,j≠i*sz+off∧Fs j c),?_,hr _ _ hcell,fun c hc'=>(hfs _ c hc').2,?_,?_,?_,?_⟩
  ·simp only [kidVT,kidAT,hzz,Option.bind_some]
   exact cell_own hb hsize
  ·rintro c (rfl | ⟨j,_,hj'⟩)
   ·exact hF
   ·exact (hfs j c hj').2
  ·rintro c hc' (rfl | ⟨j,hne,hj'⟩)
   ·exact (hfs _ c hc').1 rfl
   ·exact hdis _ _ c (Ne.symm hne) hc' hj'
  ·intro w' A' y F1' F' hA hwA hw hy hd hag h1 h2
   exact hset w' A' y F1' F' cs hA hwA (fun c hc' _=>hw c hc') (by rw [hw b (.inl rfl)];exact hb) rfl (fun _ _=>rfl) hy hd hag h1 h2
  ·intro a ha
   simp only [kidAT,hzz,Option.some.injEq] at ha
   subst ha
   refine ⟨.inl rfl,rfl,cell_own hb hsize,by simp [World.frozen?,hb];omega,fun u' w' A' y F1' F' hA hwA hw hwb hy hd hag h1 h2=>?_⟩
   refine hset w' A' y F1' F' (cs.setIfInBounds (o+(i*sz+off)) u') hA hwA hw (hwb.trans (setCell_block u' hb)) (by simp) (fun j hj'=>getD_set_ne _ (by omega)) ?_ hd hag h1 h2
   rw [getD_set_eq _ hsize]
   exact hy
 | @agg cs l F Fs hs hr hfs hdis =>
  obtain ⟨rfl,ho⟩:=hk
  refine ⟨cs.getD off undef,Fs off,(fun c=>∃ j,j≠off∧Fs j c),rfl,?_,fun c hc=>hfs _ c hc,fun c ⟨j,_,hj⟩=>hfs j c hj,fun c hc ⟨j,hne,hj⟩=>hdis _ _ c (Ne.symm hne) hc hj,?_,?_⟩
  ·refine hr off _ ?_
   simp only [D.kidT,List.getD_eq_getElem?_getD,List.getElem?_eq_getElem ho,Option.getD_some]
  ·intro w' A' y F1' F' hA hwA hw hy hd hag h1 h2
   refine .agg (fun j c=>if j=off then F1' c else Fs j c) (by simpa using hs) (fun j x hx=>?_) (fun j c hj=>?_) (fun p q c hpq hp hq=>?_)
   ·by_cases hj:j=off
    ·subst hj
     rw [List.getElem?_set_self ho] at hx
     injection hx with hx
     subst hx
     simpa using hy
    ·rw [List.getElem?_set_ne (Ne.symm hj)] at hx
     simp only [if_neg hj]
     exact (hr j x hx).mono hA hwA (fun c hc=>hw c ⟨j,hj,hc⟩) fun _ h=>h
   ·split at hj
    ·exact h1 c hj
    ·rename_i hne;exact h2 c ⟨j,hne,hj⟩
   ·split at hp<;>split at hq
    ·omega
    ·rename_i hq';exact hd c hp ⟨q,hq',hq⟩
    ·rename_i hp' _;exact hd c hq ⟨p,hp',hp⟩
    ·exact hdis p q c hpq hp hq
  ·intro a ha;simp [kidAT] at ha
 | @tup cs l F Fs hs hr hfs hdis =>
  obtain ⟨rfl,ho⟩:=hk
  refine ⟨cs.getD off undef,Fs off,(fun c=>∃ j,j≠off∧Fs j c),rfl,?_,fun c hc=>hfs _ c hc,fun c ⟨j,_,hj⟩=>hfs j c hj,fun c hc ⟨j,hne,hj⟩=>hdis _ _ c (Ne.symm hne) hc hj,?_,?_⟩
  ·refine hr off _ ?_
   simp only [D.kidT,List.getD_eq_getElem?_getD,List.getElem?_eq_getElem ho,Option.getD_some]
  ·intro w' A' y F1' F' hA hwA hw hy hd hag h1 h2
   refine .tup (fun j c=>if j=off then F1' c else Fs j c) (by simpa using hs) (fun j x hx=>?_) (fun j c hj=>?_) (fun p q c hpq hp hq=>?_)
   ·by_cases hj:j=off
    ·subst hj
     rw [List.getElem?_set_self ho] at hx
     injection hx with hx
     subst hx
     simpa using hy
    ·rw [List.getElem?_set_ne (Ne.symm hj)] at hx
     simp only [if_neg hj]
     exact (hr j x hx).mono hA hwA (fun c hc=>hw c ⟨j,hj,hc⟩) fun _ h=>h
   ·split at hj
    ·exact h1 c hj
    ·rename_i hne;exact h2 c ⟨j,hne,hj⟩
   ·split at hp<;>split at hq
    ·omega
    ·rename_i hq';exact hd c hp ⟨q,hq',hq⟩
    ·rename_i hp' _;exact hd c hq ⟨p,hp',hp⟩
    ·exact hdis p q c hpq hp hq
  ·intro a ha;simp [kidAT] at ha
 | @ptr b l cs e F Fs hb hs hr hF hfs hdis =>
  obtain ⟨rfl,ho⟩:=hk
  have hset:∀ (w':World) (A':Nat→Prop) (y:D) (F1' F':Nat→Prop) (cs':Array Value),(∀ b,A b→A' b)→(∀ b,A b→w'.heap[b]?=w.heap[b]?) →
    (∀ c,(c=b∨∃ j,j≠off∧Fs j c)→c≠b→w'.heap[c]?=w.heap[c]?)→w'.heap[b]?=some (.cells cs' e (0,0))→cs'.size=cs.size→(∀ j,j≠off→cs'.getD j undef=cs.getD j undef) →
    Own w' A' (cs'.getD off undef) y F1'→(∀ c,F1' c→¬ (c=b∨∃ j,j≠off∧Fs j c)) →
    (∀ b,F1' b→F' b)→(∀ c,(c=b∨∃ j,j≠off∧Fs j c)→F' c)→Own w' A' (.pointer (some ⟨b,0,none⟩)) ((D.ptr l).setKidT 0 off y) F':=by
   intro w' A' y F1' F' cs' hA hwA hw hb' hsz' hcs hy hd h1 h2
   refine .ptr (fun j c=>if j=off then F1' c else Fs j c) hb' (by simpa [hsz'] using hs) (fun j x hx=>?_) (h2 b (.inl rfl)) (fun j c hj=>?_) (fun p q c hpq hp hq=>?_)
   ·by_cases hj:j=off
    ·subst hj
     rw [List.getElem?_set_self ho] at hx
     injection hx with hx
     subst hx
     simpa using hy
    ·rw [List.getElem?_set_ne (Ne.symm hj)] at hx
     simp only [if_neg hj,hcs j hj]
     exact (hr j x hx).mono hA hwA (fun c hc=>hw c (.inr ⟨j,hj,hc⟩) (hfs j c hc).1) fun _ h=>h
   ·split at hj
    ·exact ⟨fun hcb=>hd c hj (.inl hcb),h1 c hj⟩
    ·rename_i hne;exact ⟨(hfs j c hj).1,h2 c (.inr ⟨j,hne,hj⟩)⟩
   ·split at hp<;>split at hq
    ·omega
    ·rename_i hq';exact hd c hp (.inr ⟨q,hq',hq⟩)
    ·rename_i hp' _;exact hd c hq (.inr ⟨p,hp',hp⟩)
    ·exact hdis p q c hpq hp hq
  have hsize:off<cs.size:=by omega
  have hget:l[off]?=some ((D.ptr l).kidT 0 off):=by
   simp only [D.kidT,List.getD_eq_getElem?_getD,List.getElem?_eq_getElem ho,Option.getD_some]
  refine ⟨cs.getD off undef,Fs off,(fun c=>c=b∨∃ j,j≠off∧Fs j c),?_,hr _ _ hget,fun c hc=>(hfs _ c hc).2,?_,?_,?_,?_⟩
  ·simp only [kidVT,kidAT,Option.bind_some,Nat.zero_add]
   exact cell_own hb hsize
  ·rintro c (rfl | ⟨j,_,hj⟩)
   ·exact hF
   ·exact (hfs j c hj).2
  ·rintro c hc (rfl | ⟨j,hne,hj⟩)
   ·exact (hfs _ c hc).1 rfl
   ·exact hdis _ _ c (Ne.symm hne) hc hj
  ·intro w' A' y F1' F' hA hwA hw hy hd hag h1 h2
   exact hset w' A' y F1' F' cs hA hwA (fun c hc _=>hw c hc) (by rw [hw b (.inl rfl)];exact hb) rfl (fun _ _=>rfl) hy hd h1 h2
  ·intro a ha
   simp only [kidAT,Option.some.injEq,Nat.zero_add] at ha
   subst ha
   refine ⟨.inl rfl,rfl,cell_own hb hsize,by simp [World.frozen?,hb],fun u' w' A' y F1' F' hA hwA hw hwb hy hd hag h1 h2=>?_⟩
   refine hset w' A' y F1' F' (cs.setIfInBounds off u') hA hwA hw (hwb.trans (setCell_block u' hb)) (by simp) (fun j hj=>getD_set_ne _ (Ne.symm hj)) ?_ hd h1 h2
   rw [getD_set_eq _ hsize]
   exact hy
theorem Own.un {w:World} {A:Nat→Prop} {v:Value} {x:D} {F:Nat→Prop} (h:Own w A v x F):x.un=x∧∀ i off y,x.setKid i off y=x.setKidT i off y:=by
 cases h<;>exact ⟨rfl,fun _ _ _=>rfl⟩
theorem kid_tree {w:World} {A:Nat→Prop} {v:Value} {x:D} {F:Nat→Prop} (h:Own w A v x F) (i off:Nat) :
  x.kid i off=x.kidT i off∧(x.hasKid i off↔x.hasKidT i off)∧kidA v x i off=kidAT v x i off∧kidV w v x i off=kidVT w v x i off:=by
 obtain ⟨h1,_⟩:=h.un
 unfold D.kid D.hasKid kidA kidV
 rw [h1]
 exact ⟨rfl,Iff.rfl,rfl,rfl⟩
theorem setKidT_isAgg (x:D) (i off:Nat) (y:D):(x.setKidT i off y).isAgg=x.isAgg:=by cases x<;>rfl
theorem okKid_deep {x:D} {i off:Nat} {y:D} (hk:x.hasKidT i off) (hz:∀ z l,(x=.slice z l∨x=.row z l)→∀ e∈l,e.cells.length=z.cells.length) (hy:y.isAgg=(x.kidT i off).isAgg):x.okKidT i y:=by
 have key:∀ (z:D) (l:List D),(∀ e∈l,e.cells.length=z.cells.length)→i<l.length→off<z.cells.length→y.isAgg=((l.getD i z).cells.getD off .dead).isAgg→okCell (l.getD i z) y:=by
  intro z l hz' h1 h2 hy
  have hLi:l.getD i z=l[i]:=by rw [List.getD_eq_getElem?_getD,List.getElem?_eq_getElem h1];rfl
  have hl:=hz' l[i] (List.getElem_mem h1)
  rw [← hLi] at hl
  generalize l.getD i z=e at hl hy ⊢
  by_cases he:e.isAgg=true
  ·exact .inl he
  ·refine .inr ?_
   have he':e.isAgg=false:=by simpa using he
   rw [hy,D.cells_one he']
   rw [D.cells_one he'] at hl
   simp only [List.length_cons,List.length_nil] at hl
   have:off=0:=by omega
   subst this
   exact he'
 cases x<;>try trivial
 ·exact key _ _ (hz _ _ (.inl rfl)) hk.1 hk.2 hy
 ·exact key _ _ (hz _ _ (.inr rfl)) hk.1 hk.2 hy
theorem Own.sizes {w:World} {A:Nat→Prop} {v:Value} {x:D} {F:Nat→Prop} (h:Own w A v x F):∀ z l,(x=.slice z l∨x=.row z l)→∀ e∈l,e.cells.length=z.cells.length:=by
 intro z l hx e he
 cases h with
 | slice Fs hb hroom hc hm hz hzz hsz hr hF hfs hdis =>
  rcases hx with hx | hx<;>cases hx
  rw [hzz];exact hsz e he
 | nil=>rcases hx with hx | hx<;>cases hx;cases he
 | _=>rcases hx with hx | hx<;>cases hx
theorem setAt_isAgg {x:D} {p:Path} (hp:p≠[]) (y:D) (hx:x.un=x):(x.setAt p y).isAgg=x.isAgg:=by
 cases p with
 | nil=>exact absurd rfl hp
 | cons s p =>
  obtain ⟨i,off⟩:=s
  simp only [D.setAt]
  cases x<;>simp only [D.un] at hx<;>first | rfl | (simp only [D.setKid];exact setKidT_isAgg _ _ _ _)
def okAt (x:D):Path→D→Prop
 | [],_=>True
 | [(i,_)],y=>x.un.okKidT i y
 | (i,off)::p,y=>okAt (x.kid i off) p y
theorem Own.splitAt {w:World} {A:Nat→Prop}:∀ (p:Path) {v:Value} {x:D} {F:Nat→Prop},Own w A v x F→x.has p →
  ∃ (u:Value) (F1 F2:Nat→Prop),valAt w v x p=some u∧Own w A u (x.at p) F1∧(∀ b,F1 b→F b)∧(∀ b,F2 b→F b)∧(∀ b,F1 b→¬ F2 b) ∧
   (∀ (w':World) (A':Nat→Prop) (y:D) (F1' F':Nat→Prop),(∀ b,A b→A' b)→(∀ b,A b→w'.heap[b]?=w.heap[b]?)→(∀ b,F2 b→w'.heap[b]?=w.heap[b]?)→Own w' A' u y F1'→(∀ b,F1' b→¬ F2 b) →
     okAt x p y→(∀ b,F1' b→F' b)→(∀ b,F2 b→F' b)→Own w' A' v (x.setAt p y) F') ∧
   (∀ a,adrAt w v x p=some a→F2 a.block∧a.spot=none∧w.cell? a=some u∧w.frozen? a=false ∧
     ∀ (u':Value) (w':World) (A':Nat→Prop) (y:D) (F1' F':Nat→Prop),(∀ b,A b→A' b)→(∀ b,A b→w'.heap[b]?=w.heap[b]?)→(∀ b,F2 b→b≠a.block→w'.heap[b]?=w.heap[b]?) →
      w'.heap[a.block]?=(w.setCell a u').heap[a.block]?→Own w' A' u' y F1'→(∀ b,F1' b→¬ F2 b) →
      okAt x p y→(∀ b,F1' b→F' b)→(∀ b,F2 b→F' b)→Own w' A' v (x.setAt p y) F')
 | [],v,x,F,h,_=>by
  refine ⟨v,F,fun _=>False,rfl,h,fun _ h=>h,fun _ h=>h.elim,fun _ _ h=>h,?_,?_⟩
  ·intro w' A' y F1' F' _ _ _ hy _ _ h1 _
   exact hy.mono (fun _ h=>h) (fun _ _=>rfl) (fun _ _=>rfl) h1
  ·intro a ha;simp [adrAt] at ha
 | (i,off)::p,v,x,F,h,hp=>by
  obtain ⟨hk,hp'⟩:=hp
  obtain ⟨e1,e2,e3,e4⟩:=kid_tree h i off
  obtain ⟨hu,hun⟩:=h.un
  obtain ⟨u,F1,F2,g1,g2,g3,g4,g5,g6,g7⟩:=h.split (e2.1 hk)
  rw [← e1] at g2
  obtain ⟨u',G1,G2,i1,i2,i3,i4,i5,i6,i7⟩:=Own.splitAt p g2 hp'
  have hok:∀ y,okAt x ((i,off)::p) y→x.okKidT i ((x.kid i off).setAt p y)∧okAt (x.kid i off) p y:=by
   intro y hy
   cases p with
   | nil=>simp only [okAt,hu] at hy;exact ⟨hy,trivial⟩
   | cons s p =>
    obtain ⟨i2',off2⟩:=s
    refine ⟨okKid_deep (e2.1 hk) h.sizes ?_,hy⟩
    rw [setAt_isAgg (by simp) y g2.un.1,e1]
  have hdisj:∀ b,G1 b→¬ (G2 b∨F2 b):=fun b hb hh=>hh.elim (i5 b hb) (g5 b (i3 b hb))
  refine ⟨u',G1,fun b=>G2 b∨F2 b,?_,i2,fun b hb=>g3 b (i3 b hb),fun b hb=>hb.elim (fun h=>g3 b (i4 b h)) (g4 b),hdisj,?_,?_⟩
  ·simp only [valAt,e4,g1,Option.bind_some];exact i1
  ·intro w' A' y F1' F' hA hwA hw hy hd hag h1 h2
   obtain ⟨ok1,ok2⟩:=hok y hag
   have hkid:=i6 w' A' y F1' (fun b=>F1' b∨G2 b) hA hwA (fun b hb=>hw b (.inl hb)) hy (fun b hb hg=>hd b hb (.inl hg)) ok2 (fun _ h=>.inl h) (fun _ h=>.inr h)
   simp only [D.setAt,hun]
   exact g6 w' A' _ _ F' hA hwA (fun b hb=>hw b (.inr hb)) hkid (fun b hb hf=>hb.elim (fun h=>hd b h (.inr hf)) fun h=>g5 b (i4 b h) hf) ok1
    (fun b hb=>hb.elim (h1 b) fun h=>h2 b (.inl h)) (fun b hb=>h2 b (.inr hb))
  ·intro a ha
   cases p with
   | nil =>
    simp only [adrAt,e3] at ha
    obtain ⟨j1,j2,j3,j3',j4⟩:=g7 a ha
    simp only [valAt,Option.some.injEq] at i1
    subst i1
    refine ⟨.inr j1,j2,j3,j3',fun u' w' A' y F1' F' hA hwA hw hwb hy hd hag h1 h2=>?_⟩
    simp only [D.setAt,hun]
    exact j4 u' w' A' y F1' F' hA hwA (fun b hb hne=>hw b (.inr hb) hne) hwb hy (fun b hb hf=>hd b hb (.inr hf)) (hok y hag).1 h1 (fun b hb=>h2 b (.inr hb))
   | cons s p =>
    have ha':adrAt w u (x.kid i off) (s::p)=some a:=by
     obtain ⟨i',off'⟩:=s
     cases p<;>simpa only [adrAt,e4,g1,Option.bind_some] using ha
    obtain ⟨j1,j2,j3,j3',j4⟩:=i7 a ha'
    refine ⟨.inl j1,j2,j3,j3',fun u'' w' A' y F1' F' hA hwA hw hwb hy hd hag h1 h2=>?_⟩
    obtain ⟨ok1,ok2⟩:=hok y hag
    have hkid:=j4 u'' w' A' y F1' (fun b=>F1' b∨G2 b) hA hwA (fun b hb hne=>hw b (.inl hb) hne) hwb hy (fun b hb hg=>hd b hb (.inl hg)) ok2 (fun _ h=>.inl h) (fun _ h=>.inr h)
    simp only [D.setAt,hun]
    exact g6 w' A' _ _ F' hA hwA (fun b hb=>hw b (.inr hb) (by rintro rfl;exact g5 _ (i4 _ j1) hb)) hkid (fun b hb hf=>hb.elim (fun h=>hd b h (.inr hf)) fun h=>g5 b (i4 b h) hf) ok1
     (fun b hb=>hb.elim (h1 b) fun h=>h2 b (.inl h)) (fun b hb=>h2 b (.inr hb))
end Go.D3
