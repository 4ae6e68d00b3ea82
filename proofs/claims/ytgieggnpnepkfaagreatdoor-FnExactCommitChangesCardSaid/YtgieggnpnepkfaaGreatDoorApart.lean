/- WHAT A CHANGE AT ONE PATH LEAVES AT PATHS APART. Generic. -/
import Derived.Test.YtgieggnpnepkfaaGreatDoorChange
namespace Go.D3
open Go
def apart:Path→Path→Bool
 | [],_=>false
 | _,[]=>false
 | s::p,t::q=>if s=t then apart p q else true
section
variable {w:World} {A:Nat→Prop} {v:Value} {x:D} {F:Nat→Prop}
theorem kidT_set_eq (hz:∀ z l,(x=.slice z l∨x=.row z l)→∀ e∈l,e.cells.length=z.cells.length) {i off:Nat} {y:D} (hk:x.hasKidT i off) (hy:x.okKidT i y):(x.setKidT i off y).kidT i off=y:=by
 have key:∀ (z:D) (l:List D),(∀ e∈l,e.cells.length=z.cells.length)→i<l.length→off<z.cells.length→okCell (l.getD i z) y→((l.set i (setc (l.getD i z) off y)).getD i z).cells.getD off .dead=y:=by
  intro z l hz' h1 h2 hy
  have hLi:l.getD i z=l[i]:=by rw [List.getD_eq_getElem?_getD,List.getElem?_eq_getElem h1];rfl
  have hl:=hz' l[i] (List.getElem_mem h1)
  rw [← hLi] at hl
  have e0:(l.set i (setc (l.getD i z) off y)).getD i z=setc (l.getD i z) off y:=by rw [List.getD_eq_getElem?_getD,List.getElem?_set_self h1,Option.getD_some]
  rw [e0]
  generalize l.getD i z=e at hl hy
  rw [setc_cells hy (by omega),List.getD_eq_getElem?_getD,List.getElem?_set_self (by omega),Option.getD_some]
 have key2:∀ (l:List D),off<l.length→(l.set off y).getD off .dead=y:=by
  intro l h
  rw [List.getD_eq_getElem?_getD,List.getElem?_set_self h,Option.getD_some]
 cases x<;>try exact hk.elim
 case slice z l=>exact key z l (hz z l (.inl rfl)) hk.1 hk.2 hy
 case row z l=>exact key z l (hz z l (.inr rfl)) hk.1 hk.2 hy
 all_goals exact key2 _ hk.2
theorem kidT_set_ne (hz:∀ z l,(x=.slice z l∨x=.row z l)→∀ e∈l,e.cells.length=z.cells.length) {i off i' off':Nat} {y:D} (hk:x.hasKidT i off) (hk':x.hasKidT i' off') (hne:(i,off)≠(i',off')) (hy:x.okKidT i y) :
  (x.setKidT i off y).kidT i' off'=x.kidT i' off':=by
 have key:∀ (z:D) (l:List D),(∀ e∈l,e.cells.length=z.cells.length)→i<l.length→off<z.cells.length→okCell (l.getD i z) y→((l.set i (setc (l.getD i z) off y)).getD i' z).cells.getD off' .dead=(l.getD i' z).cells.getD off' .dead:=by
  intro z l hz' h1 h2 hy
  by_cases hii:i=i'
  ·subst hii
   have hoo:off≠off':=fun h=>hne (by rw [h])
   have hLi:l.getD i z=l[i]:=by rw [List.getD_eq_getElem?_getD,List.getElem?_eq_getElem h1];rfl
   have hl:=hz' l[i] (List.getElem_mem h1)
   rw [← hLi] at hl
   have e0:(l.set i (setc (l.getD i z) off y)).getD i z=setc (l.getD i z) off y:=by rw [List.getD_eq_getElem?_getD,List.getElem?_set_self h1,Option.getD_some]
   rw [e0]
   generalize l.getD i z=e at hl hy
   rw [setc_cells hy (by omega),List.getD_eq_getElem?_getD,List.getElem?_set_ne hoo,← List.getD_eq_getElem?_getD]
  ·rw [List.getD_eq_getElem?_getD (l:=l.set i _),List.getElem?_set_ne hii,← List.getD_eq_getElem?_getD]
 have key2:∀ (l:List D),i=0→i'=0→(l.set off y).getD off' .dead=l.getD off' .dead:=by
  intro l h h'
  have hoo:off≠off':=fun e=>hne (by rw [h,h',e])
  rw [List.getD_eq_getElem?_getD,List.getElem?_set_ne hoo,← List.getD_eq_getElem?_getD]
 cases x<;>try exact hk.elim
 case slice z l=>exact key z l (hz z l (.inl rfl)) hk.1 hk.2 hy
 case row z l=>exact key z l (hz z l (.inr rfl)) hk.1 hk.2 hy
 all_goals exact key2 _ hk.1 hk'.1
theorem kidVT_set {i off:Nat} {y:D} {i' off':Nat} (w':World):kidVT w' v (x.setKidT i off y) i' off'=kidVT w' v x i' off':=by
 cases x<;>rfl
theorem setKidT_un (hu:x.un=x) (i off:Nat) (y:D):(x.setKidT i off y).un=x.setKidT i off y:=by
 cases x<;>first | rfl | exact hu
theorem kid_set (h:Own w A v x F) {i off:Nat} (y:D) (i' off':Nat):((x.setKid i off y).hasKid i' off'↔x.hasKid i' off')∧(∀ w' v',kidV w' v' (x.setKid i off y) i' off'=kidV w' v' x i' off')∧(∀ v',kidA v' (x.setKid i off y) i' off'=kidA v' x i' off') ∧
  (x.setKid i off y).kid i' off'=(x.setKidT i off y).kidT i' off':=by
 obtain ⟨hu,hs⟩:=h.un
 have hu':=setKidT_un hu i off y
 unfold D.hasKid kidV kidA D.kid
 rw [hs,hu',hu]
 exact ⟨hasKidT_set,fun w' v'=>kidVT_set w',fun v'=>kidAT_set,rfl⟩
theorem apart_tree {y:D}:∀ (p q:Path) {v:Value} {x:D} {F:Nat→Prop},Own w A v x F→x.has p→x.has q→apart p q=true→okAt x p y →
  (x.setAt p y).has q∧(x.setAt p y).at q=x.at q∧∀ (w':World) (v':Value),valAt w' v' (x.setAt p y) q=valAt w' v' x q∧adrAt w' v' (x.setAt p y) q=adrAt w' v' x q
 | [],q,_,_,_,_,_,_,ha,_=>by simp [apart] at ha
 | _::_,[],_,_,_,_,_,_,ha,_=>by simp [apart] at ha
 | (i,off)::p,(i',off')::q,v,x,F,h,hp,hq,ha,hok=>by
  obtain ⟨e1,e2,e3,e4⟩:=kid_tree h i off
  obtain ⟨u,F1,F2,g1,g2,_⟩:=h.split (e2.1 hp.1)
  rw [← e1] at g2
  have hok':x.okKidT i ((x.kid i off).setAt p y)∧(p≠[]→okAt (x.kid i off) p y):=by
   cases p with
   | nil=>simp only [okAt,h.un.1] at hok;exact ⟨hok,fun h=>absurd rfl h⟩
   | cons s p =>
    refine ⟨okKid_deep (e2.1 hp.1) h.sizes ?_,fun _=>hok⟩
    rw [setAt_isAgg (by simp) y g2.un.1,e1]
  obtain ⟨k1,k2,k3,k4⟩:=kid_set h (i:=i) (off:=off) ((x.kid i off).setAt p y) i' off'
  have e1':=(kid_tree h i' off').1
  have e2':=(kid_tree h i' off').2.1
  simp only [D.setAt]
  by_cases hst:(i,off)=(i',off')
  ·have hpq:apart p q=true:=by simpa [apart,hst] using ha
   cases hst
   have hpne:p≠[]:=by rintro rfl;simp [apart] at hpq
   obtain ⟨j1,j2,j3⟩:=apart_tree p q g2 hp.2 hq.2 hpq (hok'.2 hpne)
   have hkid:(x.setKid i off ((x.kid i off).setAt p y)).kid i off=(x.kid i off).setAt p y:=by rw [k4];exact kidT_set_eq h.sizes (e2.1 hp.1) hok'.1
   refine ⟨⟨k1.2 hq.1,by rw [hkid];exact j1⟩,by simp only [D.at];rw [hkid];exact j2,fun w' v'=>⟨?_,?_⟩⟩
   ·simp only [valAt]
    rw [k2,hkid]
    congr 1
    funext u'
    exact (j3 w' u').1
   ·cases q with
    | nil=>simp only [adrAt];exact k3 v'
    | cons t q =>
     simp only [adrAt]
     rw [k2,hkid]
     congr 1
     funext u'
     exact (j3 w' u').2
  ·have hkid:(x.setKid i off ((x.kid i off).setAt p y)).kid i' off'=x.kid i' off':=by rw [k4,e1'];exact kidT_set_ne h.sizes (e2.1 hp.1) (e2'.1 hq.1) hst hok'.1
   refine ⟨⟨k1.2 hq.1,by rw [hkid];exact hq.2⟩,by simp only [D.at];rw [hkid],fun w' v'=>⟨?_,?_⟩⟩
   ·simp only [valAt];rw [k2,hkid]
   ·cases q with
    | nil=>simp only [adrAt];exact k3 v'
    | cons t q=>simp only [adrAt];rw [k2,hkid]
theorem at_un {x:D} (hu:x.un=x) {p:Path} (hp:p≠[]):(D.o x).at p=x.at p:=by
 cases p with
 | nil=>exact absurd rfl hp
 | cons s p=>simp only [D.at,D.kid,hu];rfl
theorem valAt_un {x:D} (hu:x.un=x) (w':World) (v:Value) (p:Path):valAt w' v (.o x) p=valAt w' v x p∧adrAt w' v (.o x) p=adrAt w' v x p:=by
 cases p with
 | nil=>exact ⟨rfl,rfl⟩
 | cons s p =>
  obtain ⟨i,off⟩:=s
  have e1:kidV w' v (.o x) i off=kidV w' v x i off:=by unfold kidV;rw [hu];rfl
  have e2:D.kid (.o x) i off=x.kid i off:=by unfold D.kid;rw [hu];rfl
  have e3:kidA v (.o x) i off=kidA v x i off:=by unfold kidA;rw [hu];rfl
  refine ⟨by simp only [valAt,e1,e2],?_⟩
  cases p with
  | nil=>simp only [adrAt,e3]
  | cons t p=>simp only [adrAt,e1,e2]
theorem setAt_un (h:Own w A v x F) {p:Path} (hp:p≠[]) (y:D):(x.setAt p y).un=x.setAt p y:=by
 cases p with
 | nil=>exact absurd rfl hp
 | cons s p =>
  obtain ⟨hu,hs⟩:=h.un
  simp only [D.setAt]
  rw [hs]
  exact setKidT_un hu _ _ _
theorem okAt_dead:∀ (p:Path) (x:D),okAt x p .dead
 | [],_=>trivial
 | [(i,off)],x=>by
  simp only [okAt]
  generalize x.un=z
  cases z<;>first | trivial | exact .inr rfl
 | (i,off)::s::p,x=>okAt_dead (s::p) (x.kid i off)
theorem okAtC_dead {c:D} {p:Path} (hp:c.hasC p) (hne:p≠[]):okAtC c p .dead:=by
 cases c<;>try exact hp.elim
 case o x=>exact okAt_dead p x
 case row=>exact absurd hp hne
 case box l =>
  cases p with
  | nil=>exact absurd rfl hne
  | cons s p =>
   cases p with
   | nil=>exact trivial
   | cons t p=>exact okAt_dead (t::p) _
theorem apart_cont {R:Value→D→Prop} {c y:D} {p q:Path} (h:ContOk w A R v F c) (hp:c.hasC p) (hq:c.hasC q) (ha:apart p q=true) (hok:okAtC c p y) :
  (c.setAt p y).hasC q∧cellLvl (c.setAt p y) q=cellLvl c q∧(c.setAt p y).at q=c.at q∧∀ (w':World),valAt w' v (c.setAt p y) q=valAt w' v c q∧adrAt w' v (c.setAt p y) q=adrAt w' v c q:=by
 have hpne:p≠[]:=by rintro rfl;simp [apart] at ha
 have hqne:q≠[]:=by rintro rfl;cases p<;>simp [apart] at ha
 cases c<;>try exact hp.elim
 case row z l=>exact absurd hp hpne
 case o x =>
  obtain ⟨h1,h2,h3⟩:=apart_tree p q h hp hq ha hok
  rw [D.setAt_o h hpne]
  refine ⟨h1,rfl,?_,fun w'=>?_⟩
  ·rw [at_un (setAt_un h hpne y) hqne,D.at_o h hqne,h2]
  ·obtain ⟨a1,a2⟩:=valAt_o h w' q
   obtain ⟨b1,b2⟩:=valAt_un (setAt_un h hpne y) w' v q
   rw [a1,a2,b1,b2]
   exact h3 w' v
 case box l =>
  obtain ⟨_,b,cs,e,Fs,h1,h2,h3,h4,h5,h6,h7⟩:=h
  cases p with
  | nil=>exact absurd rfl hpne
  | cons s p =>
  cases q with
  | nil=>exact absurd rfl hqne
  | cons t q =>
  obtain ⟨i,off⟩:=s
  obtain ⟨i',off'⟩:=t
  obtain ⟨rfl,ho,hp⟩:=hp
  obtain ⟨rfl,ho',hq⟩:=hq
  have hset:∀ y',(D.box l).setKid 0 off y'=.box (l.set off y'):=fun _=>rfl
  have hkid:∀ (l:List D) off,(D.box l).kid 0 off=l.getD off .dead:=fun _ _=>rfl
  have hkv:∀ w' y',kidV w' v (.box (l.set off y')) 0 off'=kidV w' v (.box l) 0 off':=fun _ _=>rfl
  have hlv:∀ l',cellLvl (.box l') ((0,off')::q)=cellLvl (.box l) ((0,off')::q):=by intro l';cases q<;>rfl
  by_cases hoo:off=off'
  ·subst hoo
   have hpq:apart p q=true:=by simpa [apart] using ha
   cases p with
   | nil=>simp [apart] at hpq
   | cons s' p =>
   cases q with
   | nil=>simp [apart] at hpq
   | cons t' q =>
   simp only at hp hq
   split at hp
   ·rename_i y0 hy0
    rw [hy0] at hq
    have hget:l[off]?=some (.o y0):=by
     rw [List.getElem?_eq_getElem ho]
     rw [List.getD_eq_getElem?_getD,List.getElem?_eq_getElem ho] at hy0
     simpa using hy0
    have hown:=h4 off _ hget
    simp only [CellOk] at hown
    simp only [okAtC,hy0,D.un] at hok
    obtain ⟨j1,j2,j3⟩:=apart_tree (s'::p) (t'::q) hown hp hq hpq hok
    have hs1:(D.box l).setAt ((0,off)::s'::p) y=.box (l.set off (.o (y0.setAt (s'::p) y))):=by
     rw [D.setAt,hset,hkid,hy0,D.setAt_o hown (by simp)]
    have hg1:(l.set off (.o (y0.setAt (s'::p) y))).getD off .dead=.o (y0.setAt (s'::p) y):=by
     rw [List.getD_eq_getElem?_getD,List.getElem?_set_self ho,Option.getD_some]
    have hun:=setAt_un hown (p:=s'::p) (by simp) y
    rw [hs1]
    refine ⟨⟨rfl,by simpa using ho,?_⟩,rfl,?_,fun w'=>?_⟩
    ·simp only [hg1];exact j1
    ·simp only [D.at]
     rw [hkid,hkid,hg1,hy0]
     have:=j2
     rw [← at_un hun (by simp),← D.at_o hown (by simp)] at this
     exact this
    ·have ev:∀ u,valAt w' u (.o (y0.setAt (s'::p) y)) (t'::q)=valAt w' u (.o y0) (t'::q)∧adrAt w' u (.o (y0.setAt (s'::p) y)) (t'::q)=adrAt w' u (.o y0) (t'::q):=by
      intro u
      obtain ⟨b1,b2⟩:=valAt_un hun w' u (t'::q)
      obtain ⟨a1,a2⟩:=valAt_un hown.un.1 w' u (t'::q)
      rw [a1,a2,b1,b2]
      exact j3 w' u
     constructor
     ·rw [valAt,valAt,hkv,hkid,hkid,hg1,hy0]
      congr 1;funext u;exact (ev u).1
     ·rw [adrAt,adrAt,hkv,hkid,hkid,hg1,hy0]
      ·congr 1;funext u;exact (ev u).2
      all_goals simp
   ·exact hp.elim
  ·have hg:∀ y',(l.set off y').getD off' .dead=l.getD off' .dead:=by
    intro y'
    rw [List.getD_eq_getElem?_getD,List.getElem?_set_ne hoo,← List.getD_eq_getElem?_getD]
   simp only [D.setAt]
   rw [hset]
   generalize (D.box l |>.kid 0 off).setAt p y=y'
   refine ⟨⟨rfl,by simpa using ho',?_⟩,hlv _,?_,fun w'=>⟨?_,?_⟩⟩
   ·cases q with
    | nil=>trivial
    | cons t' q=>simp only [hg];exact hq
   ·simp only [D.at];rw [hkid,hkid,hg]
   ·simp only [valAt];rw [hkv,hkid,hkid,hg]
   ·cases q with
    | nil=>rfl
    | cons t' q=>simp only [adrAt];rw [hkv,hkid,hkid,hg]
theorem short_tree {y:D}:∀ (p q:Path) {v:Value} {x:D} {F:Nat→Prop},Own w A v x F→x.has p→x.has q→q.length≤p.length→okAt x p y →
  (x.setAt p y).has q∧∀ (w':World) (v':Value),valAt w' v' (x.setAt p y) q=valAt w' v' x q∧adrAt w' v' (x.setAt p y) q=adrAt w' v' x q
 | _,[],_,_,_,_,_,_,_,_=>⟨trivial,fun _ _=>⟨rfl,rfl⟩⟩
 | [],_::_,_,_,_,_,_,_,hl,_=>by simp at hl
 | (i,off)::p,(i',off')::q,v,x,F,h,hp,hq,hl,hok=>by
  obtain ⟨e1,e2,e3,e4⟩:=kid_tree h i off
  obtain ⟨u,F1,F2,g1,g2,_⟩:=h.split (e2.1 hp.1)
  rw [← e1] at g2
  have hok':x.okKidT i ((x.kid i off).setAt p y)∧(p≠[]→okAt (x.kid i off) p y):=by
   cases p with
   | nil=>simp only [okAt,h.un.1] at hok;exact ⟨hok,fun h=>absurd rfl h⟩
   | cons s p =>
    refine ⟨okKid_deep (e2.1 hp.1) h.sizes ?_,fun _=>hok⟩
    rw [setAt_isAgg (by simp) y g2.un.1,e1]
  obtain ⟨k1,k2,k3,k4⟩:=kid_set h (i:=i) (off:=off) ((x.kid i off).setAt p y) i' off'
  have e1':=(kid_tree h i' off').1
  have e2':=(kid_tree h i' off').2.1
  have hl':q.length≤p.length:=by simpa using hl
  simp only [D.setAt]
  by_cases hst:(i,off)=(i',off')
  ·cases hst
   have hkid:(x.setKid i off ((x.kid i off).setAt p y)).kid i off=(x.kid i off).setAt p y:=by rw [k4];exact kidT_set_eq h.sizes (e2.1 hp.1) hok'.1
   cases p with
   | nil =>
    have:q=[]:=List.eq_nil_of_length_eq_zero (by simpa using hl')
    subst this
    refine ⟨⟨k1.2 hq.1,trivial⟩,fun w' v'=>⟨?_,?_⟩⟩
    ·simp only [valAt];rw [k2]
    ·simp only [adrAt];exact k3 v'
   | cons s p =>
   obtain ⟨j1,j3⟩:=short_tree (s::p) q g2 hp.2 hq.2 hl' (hok'.2 (by simp))
   refine ⟨⟨k1.2 hq.1,by rw [hkid];exact j1⟩,fun w' v'=>⟨?_,?_⟩⟩
   ·simp only [valAt]
    rw [k2,hkid]
    congr 1
    funext u'
    exact (j3 w' u').1
   ·cases q with
    | nil=>simp only [adrAt];exact k3 v'
    | cons t q =>
     simp only [adrAt]
     rw [k2,hkid]
     congr 1
     funext u'
     exact (j3 w' u').2
  ·have hkid:(x.setKid i off ((x.kid i off).setAt p y)).kid i' off'=x.kid i' off':=by rw [k4,e1'];exact kidT_set_ne h.sizes (e2.1 hp.1) (e2'.1 hq.1) hst hok'.1
   refine ⟨⟨k1.2 hq.1,by rw [hkid];exact hq.2⟩,fun w' v'=>⟨?_,?_⟩⟩
   ·simp only [valAt];rw [k2,hkid]
   ·cases q with
    | nil=>simp only [adrAt];exact k3 v'
    | cons t q=>simp only [adrAt];rw [k2,hkid]
theorem short_cont {R:Value→D→Prop} {c y:D} {p q:Path} (h:ContOk w A R v F c) (hp:c.hasC p) (hne:p≠[]) (hq:c.hasC q) (hl:q.length≤p.length) (hok:okAtC c p y) :
  (c.setAt p y).hasC q∧(∀ (w':World),valAt w' v (c.setAt p y) q=valAt w' v c q∧adrAt w' v (c.setAt p y) q=adrAt w' v c q)∧((q.length<p.length∨(cellLvl c p=true→y.isO=true))→c.hasS q→(c.setAt p y).hasS q):=by
 cases c<;>try exact hp.elim
 case row z l=>exact absurd hp hne
 case o x =>
  have hun:=setAt_un h hne y
  rw [D.setAt_o h hne]
  have hlo:∀ z,cellLvl (.o z) q=false:=fun z=>by cases q<;>rfl
  have key:(x.setAt p y).has q∧∀ w',valAt w' v (.o (x.setAt p y)) q=valAt w' v (.o x) q∧adrAt w' v (.o (x.setAt p y)) q=adrAt w' v (.o x) q:=by
   obtain ⟨h1,h3⟩:=short_tree p q h hp hq hl hok
   refine ⟨h1,fun w'=>?_⟩
   obtain ⟨a1,a2⟩:=valAt_o h w' q
   obtain ⟨b1,b2⟩:=valAt_un hun w' v q
   rw [a1,a2,b1,b2]
   exact h3 w' v
  exact ⟨key.1,key.2,fun _ _=>⟨key.1,fun hh=>by rw [hlo] at hh;cases hh⟩⟩
 case box l =>
  obtain ⟨_,b,cs,e,Fs,h1,h2,h3,h4,h5,h6,h7⟩:=h
  cases p with
  | nil=>exact absurd rfl hne
  | cons s p =>
  obtain ⟨i,off⟩:=s
  obtain ⟨rfl,ho,hp⟩:=hp
  have hset:∀ y',(D.box l).setKid 0 off y'=.box (l.set off y'):=fun _=>rfl
  have hkid:∀ (l:List D) off,(D.box l).kid 0 off=l.getD off .dead:=fun _ _=>rfl
  cases q with
  | nil =>
   simp only [D.setAt]
   rw [hset]
   exact ⟨trivial,fun w'=>⟨rfl,rfl⟩,fun _ _=>⟨trivial,fun hh=>by cases hh⟩⟩
  | cons t q =>
  obtain ⟨i',off'⟩:=t
  obtain ⟨rfl,ho',hq⟩:=hq
  have hkv:∀ w' y',kidV w' v (.box (l.set off y')) 0 off'=kidV w' v (.box l) 0 off':=fun _ _=>rfl
  have hlv:∀ l',cellLvl (.box l') ((0,off')::q)=cellLvl (.box l) ((0,off')::q):=by intro l';cases q<;>rfl
  by_cases hoo:off=off'
  ·subst hoo
   cases p with
   | nil =>
    have:q=[]:=List.eq_nil_of_length_eq_zero (by simpa using hl)
    subst this
    have hs1:(D.box l).setAt [(0,off)] y=.box (l.set off y):=rfl
    rw [hs1]
    have hC:(D.box (l.set off y)).hasC [(0,off)]:=⟨rfl,by simpa using ho,trivial⟩
    refine ⟨hC,fun w'=>⟨?_,rfl⟩,fun hy hs=>⟨hC,fun _=>?_⟩⟩
    ·simp only [valAt];rw [hkv]
    ·have e1:(D.box (l.set off y)).at [(0,off)]=y:=by
      show (l.set off y).getD off .dead=y
      rw [List.getD_eq_getElem?_getD,List.getElem?_set_self ho,Option.getD_some]
     rw [e1]
     exact hy.resolve_left (by simp) rfl
   | cons s' p =>
   simp only at hp
   split at hp
   ·rename_i y0 hy0
    have hget:l[off]?=some (.o y0):=by
     rw [List.getElem?_eq_getElem ho]
     rw [List.getD_eq_getElem?_getD,List.getElem?_eq_getElem ho] at hy0
     simpa using hy0
    have hown:=h4 off _ hget
    simp only [CellOk] at hown
    simp only [okAtC,hy0,D.un] at hok
    have hs1:(D.box l).setAt ((0,off)::s'::p) y=.box (l.set off (.o (y0.setAt (s'::p) y))):=by
     rw [D.setAt,hset,hkid,hy0,D.setAt_o hown (by simp)]
    have hg1:(l.set off (.o (y0.setAt (s'::p) y))).getD off .dead=.o (y0.setAt (s'::p) y):=by
     rw [List.getD_eq_getElem?_getD,List.getElem?_set_self ho,Option.getD_some]
    have hun:=setAt_un hown (p:=s'::p) (by simp) y
    rw [hs1]
    cases q with
    | nil =>
     have hC:(D.box (l.set off (.o (y0.setAt (s'::p) y)))).hasC [(0,off)]:=⟨rfl,by simpa using ho,trivial⟩
     refine ⟨hC,fun w'=>⟨?_,rfl⟩,fun _ _=>⟨hC,fun _=>?_⟩⟩
     ·simp only [valAt];rw [hkv]
     ·have e1:(D.box (l.set off (.o (y0.setAt (s'::p) y)))).at [(0,off)]=.o (y0.setAt (s'::p) y):=hg1
      rw [e1];rfl
    | cons t' q =>
    simp only at hq
    rw [hy0] at hq
    obtain ⟨j1,j3⟩:=short_tree (s'::p) (t'::q) hown hp hq (by simpa using hl) hok
    have hC:(D.box (l.set off (.o (y0.setAt (s'::p) y)))).hasC ((0,off)::t'::q):=by
     refine ⟨rfl,by simpa using ho,?_⟩
     simp only [hg1];exact j1
    refine ⟨hC,fun w'=>?_,fun _ _=>⟨hC,fun hh=>by cases hh⟩⟩
    have ev:∀ u,valAt w' u (.o (y0.setAt (s'::p) y)) (t'::q)=valAt w' u (.o y0) (t'::q)∧adrAt w' u (.o (y0.setAt (s'::p) y)) (t'::q)=adrAt w' u (.o y0) (t'::q):=by
     intro u
     obtain ⟨b1,b2⟩:=valAt_un hun w' u (t'::q)
     obtain ⟨a1,a2⟩:=valAt_un hown.un.1 w' u (t'::q)
     rw [a1,a2,b1,b2]
     exact j3 w' u
    constructor
    ·rw [valAt,valAt,hkv,hkid,hkid,hg1,hy0]
     congr 1;funext u;exact (ev u).1
    ·rw [adrAt,adrAt,hkv,hkid,hkid,hg1,hy0]
     ·congr 1;funext u;exact (ev u).2
     all_goals simp
   ·exact hp.elim
  ·have hg:∀ y',(l.set off y').getD off' .dead=l.getD off' .dead:=by
    intro y'
    rw [List.getD_eq_getElem?_getD,List.getElem?_set_ne hoo,← List.getD_eq_getElem?_getD]
   simp only [D.setAt]
   rw [hset]
   generalize (D.box l |>.kid 0 off).setAt p y=y'
   have hC:(D.box (l.set off y')).hasC ((0,off')::q):=by
    refine ⟨rfl,by simpa using ho',?_⟩
    cases q with
    | nil=>trivial
    | cons t' q=>simp only [hg];exact hq
   refine ⟨hC,fun w'=>⟨?_,?_⟩,fun _ hs=>⟨hC,fun hh=>?_⟩⟩
   ·simp only [valAt];rw [hkv,hkid,hkid,hg]
   ·cases q with
    | nil=>rfl
    | cons t' q=>simp only [adrAt];rw [hkv,hkid,hkid,hg]
   ·rw [hlv] at hh
    have:=hs.2 hh
    simp only [D.at] at this ⊢
    rw [hkid] at this ⊢
    rw [hg];exact this
end
end Go.D3
