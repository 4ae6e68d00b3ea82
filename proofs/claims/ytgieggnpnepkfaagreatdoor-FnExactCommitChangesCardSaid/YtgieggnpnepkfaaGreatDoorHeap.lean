/- THE HEAP'S PART OF A STATE,and its primitive changes. Generic. -/
import Derived.Test.YtgieggnpnepkfaaGreatDoorState
namespace Go.D3
open Go
structure Ctx where
 w0:World
 F0:Nat→Prop
 A0:Nat→Prop
 gv:Nat→Value
 hA:∀ b,A0 b→b<w0.heap.size∧¬ F0 b
 hg:GOk w0 A0
 dfs:List Deferred
def stab (cx:Ctx) (fp:Nat→Nat→Prop) (G:Nat→Prop) (w:World) (b:Nat):Prop:=(b<w.heap.size∧(b<cx.w0.heap.size→cx.A0 b))∧¬ G b∧∀ k,¬ fp k b
structure Hp (cx:Ctx) (ct:Nat→D) (vl:Nat→Value) (fp:Nat→Nat→Prop) (G:Nat→Prop) (w:World):Prop where
 ok:∀ k,ContOk w (stab cx fp G w) (RefOk w ct vl) (vl k) (fp k) (ct k)
 dis:∀ j k,j≠k→∀ b,fp j b→¬ fp k b
 disG:∀ k b,fp k b→¬ G b
 emp:∀ k,(ct k).isObj=false→∀ b,¬ fp k b
 lt:∀ k b,fp k b→b<w.heap.size∧(cx.F0 b∨cx.w0.heap.size≤b)
 ltG:∀ b,G b→b<w.heap.size∧(cx.F0 b∨cx.w0.heap.size≤b)
 size:cx.w0.heap.size≤w.heap.size
 same:∀ b,b<cx.w0.heap.size→¬ cx.F0 b→w.heap[b]?=cx.w0.heap[b]?
 os:w.os=cx.w0.os
 tape:w.tape=cx.w0.tape
 output:w.output=cx.w0.output
theorem Hp.gl {cx:Ctx} {ct:Nat→D} {vl:Nat→Value} {fp:Nat→Nat→Prop} {G:Nat→Prop} {w:World} (h:Hp cx ct vl fp G w):GOk w (stab cx fp G w):=by
 refine cx.hg.mono (fun b hb=>?_) fun b hb=>h.same b (cx.hA b hb).1 (cx.hA b hb).2
 obtain ⟨h1,h2⟩:=cx.hA b hb
 have:=h.size
 exact ⟨⟨by omega,fun _=>hb⟩,fun hg=>(h.ltG b hg).2.elim h2 (by omega),fun k hk=>(h.lt k b hk).2.elim h2 (by omega)⟩
def upd {α:Type} (f:Nat→α) (k:Nat) (x:α):Nat→α:=fun j=>if j=k then x else f j
theorem upd_same {α:Type} (f:Nat→α) (k:Nat) (x:α):upd f k x k=x:=by simp [upd]
theorem upd_ne {α:Type} (f:Nat→α) {j k:Nat} (x:α) (h:j≠k):upd f k x j=f j:=by simp [upd,h]
theorem valAt_tree {w w':World} {A:Nat→Prop}:∀ (p:Path) {v:Value} {x:D} {F:Nat→Prop},Own w A v x F→x.has p→(∀ b,F b→w'.heap[b]?=w.heap[b]?) →
  valAt w' v x p=valAt w v x p∧adrAt w' v x p=adrAt w v x p
 | [],v,x,F,h,_,_=>⟨rfl,rfl⟩
 | (i,off)::p,v,x,F,h,hp,hw=>by
  obtain ⟨hk,hp'⟩:=hp
  obtain ⟨e1,e2,e3,e4⟩:=kid_tree h i off
  obtain ⟨u,F1,F2,g1,g2,g3,g4,g5,g6,g7⟩:=h.split (e2.1 hk)
  have hkv:kidV w' v x i off=some u:=by
   obtain ⟨hu,_⟩:=h.un
   unfold kidV;rw [hu]
   cases x<;>try exact (e2.1 hk).elim
   all_goals first
    | exact g1
    | (simp only [kidVT] at g1 ⊢
       generalize ha:kidAT v _ i off=a at g1 ⊢
       cases a with
       | none=>simp at g1
       | some a =>
        obtain ⟨j1,j2,j3,_⟩:=g7 a ha
        simp only [Option.bind_some] at g1 ⊢
        rw [← g1]
        obtain ⟨ab,ao,as⟩:=a
        simp only at j2
        cases as with
        | some _=>simp at j2
        | none=>exact cell_of_heap (hw _ (g4 _ j1)))
  rw [← e1] at g2
  obtain ⟨i1,i2⟩:=valAt_tree p g2 hp' fun b hb=>hw b (g3 b hb)
  rw [← e4] at g1
  refine ⟨by simp only [valAt,hkv,g1,Option.bind_some];exact i1,?_⟩
  cases p with
  | nil=>rfl
  | cons s p=>simp only [adrAt,hkv,g1,Option.bind_some];exact i2
theorem valAt_o {w:World} {A:Nat→Prop} {v:Value} {x:D} {F:Nat→Prop} (h:Own w A v x F) (w':World) (p:Path):valAt w' v (.o x) p=valAt w' v x p∧adrAt w' v (.o x) p=adrAt w' v x p:=by
 obtain ⟨hu,_⟩:=h.un
 cases p with
 | nil=>exact ⟨rfl,rfl⟩
 | cons s p =>
  obtain ⟨i,off⟩:=s
  have e1:kidV w' v (.o x) i off=kidV w' v x i off:=by unfold kidV;rw [hu];rfl
  have e2:D.kid (.o x) i off=x.kid i off:=by unfold D.kid;rw [hu];rfl
  have e3:kidA v (.o x) i off=kidA v x i off:=by unfold kidA;rw [hu];rfl
  refine ⟨by simp only [valAt,e1,e2],?_⟩
  cases p with
  | nil=>simp only [adrAt,e3]
  | cons t p=>simp only [adrAt,e1,e2]
theorem valAt_cont {w w':World} {A:Nat→Prop} {R:Value→D→Prop} {v:Value} {c:D} {F:Nat→Prop} {p:Path} (h:ContOk w A R v F c) (hp:c.hasC p) (hw:∀ b,F b→w'.heap[b]?=w.heap[b]?) :
  valAt w' v c p=valAt w v c p∧adrAt w' v c p=adrAt w v c p:=by
 cases c<;>try exact hp.elim
 case o x =>
  obtain ⟨a1,a2⟩:=valAt_o h w p
  obtain ⟨b1,b2⟩:=valAt_o h w' p
  obtain ⟨c1,c2⟩:=valAt_tree p h hp hw
  exact ⟨by rw [a1,b1,c1],by rw [a2,b2,c2]⟩
 case row z l=>simp only [D.hasC] at hp;subst hp;exact ⟨rfl,rfl⟩
 case box l =>
  cases p with
  | nil=>exact ⟨rfl,rfl⟩
  | cons s p =>
   obtain ⟨i,off⟩:=s
   obtain ⟨_,b,cs,e,Fs,h1,h2,h3,h4,h5,h6,h7⟩:=h
   obtain ⟨rfl,ho,hp⟩:=hp
   subst h1
   have hcell:∀ w'',w''.heap[b]?=w.heap[b]?→kidV w'' (.pointer (some ⟨b,0,none⟩)) (.box l) 0 off=some (cs.getD off undef):=by
    intro w'' hb
    show w''.cell? ⟨b,0+off,none⟩=_
    rw [Nat.zero_add]
    exact cell_own (hb.trans h2) (by omega)
   have e1:=hcell w rfl
   have e2:=hcell w' (hw b h5)
   cases p with
   | nil=>exact ⟨by simp only [valAt,e1,e2],rfl⟩
   | cons t p =>
    have hk:D.kid (.box l) 0 off=l.getD off .dead:=rfl
    simp only at hp
    split at hp
    ·rename_i y hy
     have hget:l[off]?=some (.o y):=by
      rw [List.getElem?_eq_getElem ho]
      rw [List.getD_eq_getElem?_getD,List.getElem?_eq_getElem ho] at hy
      simpa using hy
     have hown:=h4 off _ hget
     simp only [CellOk] at hown
     obtain ⟨a1,a2⟩:=valAt_o hown w (t::p)
     obtain ⟨b1,b2⟩:=valAt_o hown w' (t::p)
     obtain ⟨c1,c2⟩:=valAt_tree (w':=w') (t::p) hown hp fun d hd=>hw d (h6 _ d hd).2
     rw [← hy,← hk] at a1 a2 b1 b2
     constructor
     ·have:∀ w'',kidV w'' (.pointer (some ⟨b,0,none⟩)) (.box l) 0 off=some (cs.getD off undef)→valAt w'' (.pointer (some ⟨b,0,none⟩)) (.box l) ((0,off)::t::p)=valAt w'' (cs.getD off undef) (D.kid (.box l) 0 off) (t::p):=by
       intro w'' he;rw [valAt,he,Option.bind_some]
      rw [this w' e2,this w e1,a1,b1,c1]
     ·have:∀ w'',kidV w'' (.pointer (some ⟨b,0,none⟩)) (.box l) 0 off=some (cs.getD off undef)→adrAt w'' (.pointer (some ⟨b,0,none⟩)) (.box l) ((0,off)::t::p)=adrAt w'' (cs.getD off undef) (D.kid (.box l) 0 off) (t::p):=by
       intro w'' he;rw [adrAt,he,Option.bind_some]
       simp
      rw [this w' e2,this w e1,a2,b2,c2]
    ·exact hp.elim
def keepR (w w':World) (ct ct':Nat→D) (vl vl':Nat→Value):D→Prop
 | .sub k p=>(ct k).hasS p→(ct' k).hasS p∧valAt w' (vl' k) (ct' k) p=valAt w (vl k) (ct k) p
 | .adr k p=>(ct k).hasC p→(ct' k).hasC p∧adrAt w' (vl' k) (ct' k) p=adrAt w (vl k) (ct k) p
 | _=>True
theorem RefOk.keep {w w':World} {ct ct':Nat→D} {vl vl':Nat→Value} {v:Value} {d:D} (h:RefOk w ct vl v d) (hq:d.refs (keepR w w' ct ct' vl vl')):RefOk w' ct' vl' v d:=by
 cases d<;>try exact h.elim
 case sub k p =>
  obtain ⟨h1,h2,h2'⟩:=h
  obtain ⟨h3,h4⟩:=hq h1
  exact ⟨h3,h4.trans h2,h2'⟩
 case adr k p =>
  obtain ⟨h1,a,h2,h2'⟩:=h
  obtain ⟨h3,h4⟩:=hq h1
  exact ⟨h3,a,h4.trans h2,h2'⟩
 case pre k p n =>
  obtain ⟨q,m,c,⟨h1,h2⟩,h2'⟩:=h
  obtain ⟨h3,h4⟩:=hq h1
  exact ⟨q,m,c,⟨h3,h4.trans h2⟩,h2'⟩
theorem refs_mono {Q Q':D→Prop} {c:D} (h:∀ d,Q d→Q' d) (hc:c.refs Q):c.refs Q':=by
 induction c using D.ind with
 | agg l ih | tup l ih | box l ih | fn _ l ih=>exact refsL_iff.2 fun x hx=>ih x hx (refsL_iff.1 hc x hx)
 | row z l _ ih=>exact refsL_iff.2 fun x hx=>ih x hx (refsL_iff.1 hc x hx)
 | when g x ih=>exact ih hc
 | sub k p=>exact h _ hc
 | adr k p=>exact h _ hc
 | pre k p n=>exact h _ hc
 | _=>trivial
theorem refs_all {Q:D→Prop} (h:∀ d,Q d) (c:D):c.refs Q:=by
 induction c using D.ind with
 | agg l ih | tup l ih | box l ih | fn _ l ih=>exact refsL_iff.2 ih
 | row z l _ ih=>exact refsL_iff.2 ih
 | when g x ih=>exact ih
 | sub k p=>exact h _
 | adr k p=>exact h _
 | pre k p n=>exact h _
 | _=>trivial
theorem Rd.norefs {w:World} {A:Nat→Prop} {v:Value} {d:D} (h:Rd w A v d) (Q:D→Prop):d.refs Q:=by
 induction h with
 | agg hs _ ih=>exact refsL_iff.2 fun x hx=>by obtain ⟨j,hj,rfl⟩:=List.getElem_of_mem hx;exact ih j _ (List.getElem?_eq_getElem hj)
 | tup hs _ ih=>exact refsL_iff.2 fun x hx=>by obtain ⟨j,hj,rfl⟩:=List.getElem_of_mem hx;exact ih j _ (List.getElem?_eq_getElem hj)
 | fn hs _ ih=>exact refsL_iff.2 fun x hx=>by obtain ⟨j,hj,rfl⟩:=List.getElem_of_mem hx;exact ih j _ (List.getElem?_eq_getElem hj)
 | _=>trivial
section
variable {cx:Ctx} {ct:Nat→D} {vl:Nat→Value} {fp:Nat→Nat→Prop} {G:Nat→Prop} {w:World}
theorem killL_getD (q:D→Bool) (l:List D) (n:Nat):(killL q l).getD n .dead=(l.getD n .dead).kill q:=by
 rw [killL_map,List.getD_eq_getElem?_getD,List.getD_eq_getElem?_getD,List.getElem?_map]
 cases l[n]?<;>rfl
theorem kill_o {q:D→Bool} {c y:D}:c.kill q=.o y↔c=.o y:=by
 cases c<;>simp only [D.kill,reduceCtorEq]<;>split<;>simp
theorem kill_at_o (q:D→Bool) {c:D} {p:Path} (hp:c.hasC p) (hl:cellLvl (c.kill q) p=true):cellLvl c p=true∧((c.at p).isO=true→((c.kill q).at p).isO=true):=by
 cases c<;>try exact hp.elim
 case o x=>cases hl
 case row z l=>cases hl
 case box l =>
  cases p with
  | nil=>cases hl
  | cons s p =>
   obtain ⟨i,off⟩:=s
   cases p with
   | cons t p=>cases hl
   | nil =>
    refine ⟨rfl,fun h=>?_⟩
    have e1:(D.box l).at [(i,off)]=l.getD off .dead:=rfl
    have e2:((D.box l).kill q).at [(i,off)]=(l.getD off .dead).kill q:=killL_getD q l off
    rw [e1] at h
    rw [e2]
    generalize l.getD off .dead=c at h
    cases c<;>first | rfl | cases h
theorem kill_keep (q:D→Bool) (c:D) (v:Value) (p:Path) (h:c.hasC p):(c.kill q).hasC p∧valAt w v (c.kill q) p=valAt w v c p∧adrAt w v (c.kill q) p=adrAt w v c p:=by
 cases c<;>try exact h.elim
 case o x=>exact ⟨h,rfl,rfl⟩
 case row z l=>simp only [D.hasC] at h;subst h;exact ⟨rfl,rfl,rfl⟩
 case box l =>
  cases p with
  | nil=>exact ⟨trivial,rfl,rfl⟩
  | cons s p =>
   obtain ⟨i,off⟩:=s
   obtain ⟨rfl,ho,hp⟩:=h
   have hk:D.kid (.box (killL q l)) 0 off=(l.getD off .dead).kill q:=killL_getD q l off
   have hkv:kidV w v (.box (killL q l)) 0 off=kidV w v (.box l) 0 off:=rfl
   cases p with
   | nil=>exact ⟨⟨rfl,by simpa [killL_map] using ho,trivial⟩,by simp only [D.kill,valAt,hkv],rfl⟩
   | cons t p =>
    simp only at hp
    split at hp
    ·rename_i y hy
     have hy':(l.getD off .dead).kill q=.o y:=kill_o.2 hy
     have hk':D.kid (.box l) 0 off=.o y:=hy
     rw [hy'] at hk
     refine ⟨⟨rfl,by simpa [killL_map] using ho,?_⟩,?_,?_⟩
     ·simp only [killL_getD,hy'];exact hp
     ·simp only [D.kill];rw [valAt,valAt,hkv,hk,hk']
     ·simp only [D.kill];rw [adrAt,adrAt,hkv,hk,hk']<;>simp
    ·exact hp.elim
theorem isObj_kill (q:D→Bool) (c:D):(c.kill q).isObj=c.isObj:=by
 cases c<;>first | rfl | (simp only [D.kill];split<;>rfl)
theorem Hp.kill (h:Hp cx ct vl fp G w) (q:D→Bool):Hp cx (fun k=>(ct k).kill q) vl fp G w where
 ok k:=by
  refine ((h.ok k).kill (q:=q) RefOk.form).mono (Q:=fun _=>True) (fun _ h=>h) (fun _ _=>rfl) (fun _ _=>rfl) (fun _ h=>h) (refs_all (fun _=>trivial) _) fun v d _ hr=>?_
  refine hr.keep (refs_all (fun d=>?_) _)
  cases d<;>try trivial
  case sub k p=>exact fun hp=>⟨⟨(kill_keep (w:=w) q (ct k) (vl k) p hp.1).1,fun hl=>(kill_at_o q hp.1 hl).2 (hp.2 (kill_at_o q hp.1 hl).1)⟩,(kill_keep q (ct k) (vl k) p hp.1).2.1⟩
  case adr k p=>exact fun hp=>⟨(kill_keep (w:=w) q (ct k) (vl k) p hp).1,(kill_keep q (ct k) (vl k) p hp).2.2⟩
 dis:=h.dis
 disG:=h.disG
 emp k hk:=h.emp k (by rwa [isObj_kill] at hk)
 lt:=h.lt
 ltG:=h.ltG
 size:=h.size
 same:=h.same
 os:=h.os
 tape:=h.tape
 output:=h.output
theorem Hp.grow (h:Hp cx ct vl fp G w) {w':World} (hsz:w.heap.size≤w'.heap.size) (hw:∀ b,b<w.heap.size→w'.heap[b]?=w.heap[b]?)
  (hos:w'.os=w.os) (htape:w'.tape=w.tape) (hout:w'.output=w.output):Hp cx ct vl fp (fun b=>G b∨(w.heap.size≤b∧b<w'.heap.size)) w' where
 ok k:=by
  refine (h.ok k).mono (Q:=fun _=>True) (fun b hb=>⟨⟨by have:=hb.1.1;omega,hb.1.2⟩,fun hg=>hg.elim hb.2.1 (fun hh=>by have:=hb.1.1;omega),hb.2.2⟩) (fun b hb=>hw b hb.1.1) (fun b hb=>hw b (h.lt k b hb).1) (fun _ h=>h) (refs_all (fun _=>trivial) _) fun v d _ hr=>?_
  refine hr.keep (refs_all (fun d=>?_) _)
  cases d<;>try trivial
  case sub k p=>exact fun hp=>⟨hp,(valAt_cont (h.ok k) hp.1 fun b hb=>hw b (h.lt k b hb).1).1⟩
  case adr k p=>exact fun hp=>⟨hp,(valAt_cont (h.ok k) hp fun b hb=>hw b (h.lt k b hb).1).2⟩
 dis:=h.dis
 disG k b hb hg:=hg.elim (h.disG k b hb) fun hh=>by have:=(h.lt k b hb).1;omega
 emp:=h.emp
 lt k b hb:=⟨by have:=(h.lt k b hb).1;omega,(h.lt k b hb).2⟩
 ltG b hb:=hb.elim (fun hg=>⟨by have:=(h.ltG b hg).1;omega,(h.ltG b hg).2⟩) fun hh=>⟨hh.2,.inr (by have:=h.size;omega)⟩
 size:=Nat.le_trans h.size hsz
 same b hb hF:=by rw [hw b (by have:=h.size;omega)];exact h.same b hb hF
 os:=hos.trans h.os
 tape:=htape.trans h.tape
 output:=hout.trans h.output
theorem Hp.release (h:Hp cx ct vl fp G w) {G':Nat→Prop} (hG:∀ b,G' b→G b):Hp cx ct vl fp G' w where
 ok k:=(h.ok k).mono (Q:=fun _=>True) (fun b hb=>⟨hb.1,fun hg=>hb.2.1 (hG b hg),hb.2.2⟩) (fun _ _=>rfl) (fun _ _=>rfl) (fun _ h=>h) (refs_all (fun _=>trivial) _) fun _ _ _ hr=>hr
 dis:=h.dis
 disG k b hb hg:=h.disG k b hb (hG b hg)
 emp:=h.emp
 lt:=h.lt
 ltG b hb:=h.ltG b (hG b hb)
 size:=h.size
 same:=h.same
 os:=h.os
 tape:=h.tape
 output:=h.output
theorem hasC_obj {c:D} {p:Path} (h:c.hasC p):c.isObj=true:=by cases c<;>first | rfl | exact h.elim
theorem Hp.put (h:Hp cx ct vl fp G w) {k:Nat} (hk:(ct k).isObj=false) {v:Value} {c:D} {F G':Nat→Prop} (hc:ContOk w (stab cx fp G w) (RefOk w ct vl) v F c)
  (hF:∀ b,F b→G b) (hG:∀ b,G' b→G b) (hFG:∀ b,F b→¬ G' b) (hemp:c.isObj=false→∀ b,¬ F b):Hp cx (upd ct k c) (upd vl k v) (upd fp k F) G' w:=by
 have hst:∀ b,stab cx fp G w b→stab cx (upd fp k F) G' w b:=by
  rintro b ⟨h1,h2,h3⟩
  refine ⟨h1,fun hg=>h2 (hG b hg),fun j hj=>?_⟩
  by_cases hjk:j=k
  ·subst hjk;rw [upd_same] at hj;exact h2 (hF b hj)
  ·rw [upd_ne _ _ hjk] at hj;exact h3 j hj
 have hkeep:∀ d,keepR w w ct (upd ct k c) vl (upd vl k v) d:=by
  intro d
  cases d<;>try trivial
  case sub j p =>
   intro hp
   have hjk:j≠k:=by rintro rfl;rw [hasC_obj hp.1] at hk;cases hk
   simp only [upd_ne _ _ hjk]
   exact ⟨hp,trivial⟩
  case adr j p =>
   intro hp
   have hjk:j≠k:=by rintro rfl;rw [hasC_obj hp] at hk;cases hk
   simp only [upd_ne _ _ hjk]
   exact ⟨hp,trivial⟩
 have mono:∀ {v c F},ContOk w (stab cx fp G w) (RefOk w ct vl) v F c→ContOk w (stab cx (upd fp k F) G' w) (RefOk w (upd ct k c) (upd vl k v)) v F c→True:=fun _ _=>trivial
 refine ⟨fun j=>?_,fun i j hij b hi hj=>?_,fun j b hj hg=>?_,fun j hj b hb=>?_,fun j b hj=>?_,fun b hb=>h.ltG b (hG b hb),h.size,h.same,h.os,h.tape,h.output⟩
 ·by_cases hjk:j=k
  ·subst hjk
   simp only [upd_same]
   exact hc.mono (Q:=fun _=>True) hst (fun _ _=>rfl) (fun _ _=>rfl) (fun _ h=>h) (refs_all (fun _=>trivial) _) fun v d _ hr=>hr.keep (refs_all hkeep _)
  ·simp only [upd_ne _ _ hjk]
   exact (h.ok j).mono (Q:=fun _=>True) hst (fun _ _=>rfl) (fun _ _=>rfl) (fun _ h=>h) (refs_all (fun _=>trivial) _) fun v d _ hr=>hr.keep (refs_all hkeep _)
 ·by_cases h1:i=k<;>by_cases h2:j=k
  ·omega
  ·subst h1;rw [upd_same] at hi;rw [upd_ne _ _ h2] at hj;exact h.disG j b hj (hF b hi)
  ·subst h2;rw [upd_same] at hj;rw [upd_ne _ _ h1] at hi;exact h.disG i b hi (hF b hj)
  ·rw [upd_ne _ _ h1] at hi;rw [upd_ne _ _ h2] at hj;exact h.dis i j hij b hi hj
 ·by_cases hjk:j=k
  ·subst hjk;rw [upd_same] at hj;exact hFG b hj hg
  ·rw [upd_ne _ _ hjk] at hj;exact h.disG j b hj (hG b hg)
 ·by_cases hjk:j=k
  ·subst hjk;rw [upd_same] at hj hb;exact hemp hj b hb
  ·rw [upd_ne _ _ hjk] at hj hb;exact h.emp j hj b hb
 ·by_cases hjk:j=k
  ·subst hjk;rw [upd_same] at hj;exact h.ltG b (hF b hj)
  ·rw [upd_ne _ _ hjk] at hj;exact h.lt j b hj
def notInto (k:Nat):D→Prop
 | .sub j _=>j≠k
 | .adr j _=>j≠k
 | _=>True
theorem Hp.drop (h:Hp cx ct vl fp G w) (k:Nat) (hno:∀ j,(ct j).refs (notInto k)) (v:Value):Hp cx (upd ct k .dead) (upd vl k v) (upd fp k fun _=>False) (fun b=>G b∨fp k b) w:=by
 have hst:∀ b,stab cx fp G w b→stab cx (upd fp k fun _=>False) (fun b=>G b∨fp k b) w b:=by
  rintro b ⟨h1,h2,h3⟩
  refine ⟨h1,fun hg=>hg.elim h2 (h3 k),fun j hj=>?_⟩
  by_cases hjk:j=k
  ·subst hjk;rw [upd_same] at hj;exact hj
  ·rw [upd_ne _ _ hjk] at hj;exact h3 j hj
 have hkeep:∀ d,notInto k d→keepR w w ct (upd ct k .dead) vl (upd vl k v) d:=by
  intro d hd
  cases d<;>try trivial
  all_goals
   rename_i j p
   intro hp
   simp only [upd_ne _ _ (show j≠k from hd)]
   exact ⟨hp,trivial⟩
 refine ⟨fun j=>?_,fun i j hij b hi hj=>?_,fun j b hj hg=>?_,fun j hj b hb=>?_,fun j b hj=>?_,fun b hb=>hb.elim (h.ltG b) (h.lt k b),h.size,h.same,h.os,h.tape,h.output⟩
 ·by_cases hjk:j=k
  ·subst hjk
   simp only [upd_same]
   exact Pl.dead
  ·simp only [upd_ne _ _ hjk]
   exact (h.ok j).mono (Q:=notInto k) hst (fun _ _=>rfl) (fun _ _=>rfl) (fun _ h=>h) (hno j) fun v d hq hr=>hr.keep (refs_mono hkeep hq)
 ·by_cases h1:i=k<;>by_cases h2:j=k
  ·omega
  ·subst h1;rw [upd_same] at hi;exact hi
  ·subst h2;rw [upd_same] at hj;exact hj
  ·rw [upd_ne _ _ h1] at hi;rw [upd_ne _ _ h2] at hj;exact h.dis i j hij b hi hj
 ·by_cases hjk:j=k
  ·subst hjk;rw [upd_same] at hj;exact hj
  ·rw [upd_ne _ _ hjk] at hj;exact hg.elim (h.disG j b hj) (h.dis j k hjk b hj)
 ·by_cases hjk:j=k
  ·subst hjk;rw [upd_same] at hb;exact hb
  ·rw [upd_ne _ _ hjk] at hj hb;exact h.emp j hj b hb
 ·by_cases hjk:j=k
  ·subst hjk;rw [upd_same] at hj;exact hj.elim
  ·rw [upd_ne _ _ hjk] at hj;exact h.lt j b hj
end
end Go.D3
