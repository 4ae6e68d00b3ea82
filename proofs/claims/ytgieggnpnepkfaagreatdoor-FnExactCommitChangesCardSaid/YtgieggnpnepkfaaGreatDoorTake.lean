/- PARTS ARE TAKEN OUT OF OBJECTS,cells are written. Generic. -/
import Derived.Test.YtgieggnpnepkfaaGreatDoorApart
namespace Go.D3
open Go
theorem has_append (x:D):∀ (p q:Path),x.has (p++q)↔x.has p∧(x.at p).has q:=by
 intro p
 induction p generalizing x with
 | nil=>intro q;simp [D.has,D.at]
 | cons s p ih=>intro q;obtain ⟨i,off⟩:=s;simp only [List.cons_append,D.has,D.at,ih,and_assoc]
theorem valAt_append (w:World):∀ (p q:Path) (v:Value) (x:D),valAt w v x (p++q)=(valAt w v x p).bind fun u=>valAt w u (x.at p) q:=by
 intro p
 induction p with
 | nil=>intro q v x;rfl
 | cons s p ih =>
  intro q v x
  obtain ⟨i,off⟩:=s
  simp only [List.cons_append,valAt,D.at,ih]
  cases kidV w v x i off<;>rfl
theorem adrAt_append (w:World):∀ (p q:Path) (v:Value) (x:D),q≠[]→adrAt w v x (p++q)=(valAt w v x p).bind fun u=>adrAt w u (x.at p) q:=by
 intro p
 induction p with
 | nil=>intro q v x _;rfl
 | cons s p ih =>
  intro q v x hq
  obtain ⟨i,off⟩:=s
  have:p++q≠[]:=by simp [hq]
  have e:adrAt w v x ((i,off)::(p++q))=(kidV w v x i off).bind fun u=>adrAt w u (x.kid i off) (p++q):=by
   cases h:p++q with
   | nil=>exact absurd h this
   | cons t r=>rfl
  rw [List.cons_append,e]
  simp only [valAt,D.at]
  cases kidV w v x i off with
  | none=>rfl
  | some u=>simp only [Option.bind_some];exact ih q u _ hq
def gtL:Path→Path→Bool
 | _,[]=>false
 | [],_::_=>true
 | _::p,_::q=>gtL p q
def geL:Path→Path→Bool
 | [],_=>true
 | _::_,[]=>false
 | _::p,_::q=>geL p q
theorem gtL_len:∀ (p q:Path),gtL p q=false→q.length≤p.length
 | _,[],_=>by simp
 | [],_::_,h=>by simp [gtL] at h
 | _::p,_::q,h=>by simpa using gtL_len p q (by simpa [gtL] using h)
theorem geL_len:∀ (p q:Path),geL p q=false→q.length<p.length
 | [],_,h=>by simp [geL] at h
 | _::_,[],_=>by simp
 | _::p,_::q,h=>by simpa using geL_len p q (by simpa [geL] using h)
def qDeep (k:Nat) (p:Path):D→Bool
 | .sub j q=>j == k&&gtL p q
 | .adr j q=>j == k&&gtL p q
 | _=>false
def qSt (k:Nat) (p:Path):D→Bool
 | .sub j q=>j == k&&geL p q
 | .adr j q=>j == k&&gtL p q
 | _=>false
theorem qDeep_sub {k:Nat} {p q:Path} (h:qDeep k p (.sub k q)=false):q.length≤p.length:=gtL_len p q (by simpa [qDeep] using h)
theorem qDeep_adr {k:Nat} {p q:Path} (h:qDeep k p (.adr k q)=false):q.length≤p.length:=gtL_len p q (by simpa [qDeep] using h)
theorem qSt_sub {k:Nat} {p q:Path} (h:qSt k p (.sub k q)=false):q.length<p.length:=geL_len p q (by simpa [qSt] using h)
theorem qSt_adr {k:Nat} {p q:Path} (h:qSt k p (.adr k q)=false):q.length≤p.length:=gtL_len p q (by simpa [qSt] using h)
theorem gtL_eq:∀ {p p':Path},p.length=p'.length→∀ q,gtL p q=gtL p' q
 | [],[],_,q=>rfl
 | _::p,_::p',h,[]=>rfl
 | _::p,_::p',h,_::q=>by simpa [gtL] using gtL_eq (by simpa using h) q
theorem geL_eq:∀ {p p':Path},p.length=p'.length→∀ q,geL p q=geL p' q
 | [],[],_,q=>rfl
 | _::p,_::p',h,[]=>rfl
 | _::p,_::p',h,_::q=>by simpa [geL] using geL_eq (by simpa using h) q
theorem qSt_eq {p p':Path} (h:p.length=p'.length) (k:Nat):qSt k p=qSt k p':=by
 funext d;cases d<;>simp only [qSt,gtL_eq h,geL_eq h]
def hol (c:D) (p:Path):D:=if cellLvl c p=true then .o .dead else .dead
theorem okAtC_hol {c:D} {p:Path} (hp:c.hasC p) (hne:p≠[]):okAtC c p (hol c p):=by
 unfold hol
 split
 ·rename_i hl
  cases c<;>try exact hp.elim
  case o x=>cases p<;>cases hl
  case row=>exact absurd hp hne
  case box l =>
   cases p with
   | nil=>exact absurd rfl hne
   | cons s p=>cases p with
    | nil=>trivial
    | cons t p=>cases hl
 ·exact okAtC_dead hp hne
theorem hasC_pre {c:D} {p r:Path} (h:c.hasC (p++r)):c.hasC p:=by
 cases c<;>try exact h.elim
 case o x=>exact ((has_append x p r).1 h).1
 case row z l=>exact List.append_eq_nil_iff.1 h |>.1
 case box l =>
  cases p with
  | nil=>trivial
  | cons s p =>
   obtain ⟨i,off⟩:=s
   cases p with
   | nil=>exact ⟨h.1,h.2.1,trivial⟩
   | cons t p =>
    have h:(D.box l).hasC ((i,off)::t::(p++r)):=h
    obtain ⟨h1,h2,h3⟩:=h
    refine ⟨h1,h2,?_⟩
    simp only at h3 ⊢
    split at h3
    ·rename_i y hy
     exact ((has_append y (t::p) r).1 h3).1
    ·exact h3.elim
section
variable {w:World} {A:Nat→Prop} {R:Value→D→Prop} {v:Value} {c:D} {F:Nat→Prop}
theorem part_kid (h:ContOk w A R v F c) {p:Path} {s:Nat×Nat} (hp:c.hasC (p++[s])) (hne:p≠[]):(cellLvl c p=true→(c.at p).isO=true)∧(c.dat p).hasKid s.1 s.2:=by
 cases c<;>try exact hp.elim
 case row z l=>exact absurd (List.append_eq_nil_iff.1 hp).1 hne
 case o x =>
  refine ⟨fun hl=>(by cases p<;>cases hl),?_⟩
  obtain ⟨h1,h2⟩:=(has_append x p [s]).1 hp
  obtain ⟨_,_,_,g1,g2,_⟩:=Own.splitAt p h h1
  unfold D.dat
  rw [D.at_o h hne,g2.un.1]
  exact h2.1
 case box l =>
  obtain ⟨_,b,cs,e,Fs,h1,h2,h3,h4,h5,h6,h7⟩:=h
  cases p with
  | nil=>exact absurd rfl hne
  | cons t p =>
   obtain ⟨i,off⟩:=t
   obtain ⟨rfl,ho,hp⟩:=hp
   have hkid:∀ off,(D.box l).kid 0 off=l.getD off .dead:=fun _=>rfl
   have key:∀ q:Path,(match p++[s] with | []=>True | s::p=>match l.getD off .dead with | .o y=>y.has (s::p) | _=>False)→∃ y,l.getD off .dead=.o y∧y.has (p++[s]):=by
    intro _ hp
    cases hps:p++[s] with
    | nil=>simp at hps
    | cons a r =>
     rw [hps] at hp
     simp only at hp
     split at hp
     ·rename_i y hy;exact ⟨y,hy,hp⟩
     ·exact hp.elim
   obtain ⟨y,hy,hys⟩:=key [] hp
   obtain ⟨k1,k2⟩:=(has_append y p [s]).1 hys
   have hget:l[off]?=some (.o y):=by
    rw [List.getD_eq_getElem?_getD,List.getElem?_eq_getElem ho] at hy
    rw [List.getElem?_eq_getElem ho];simpa using hy
   have hown:=h4 off _ hget
   simp only [CellOk] at hown
   cases p with
   | nil =>
    have e:(D.box l).at [(0,off)]=.o y:=hy
    refine ⟨fun _=>by rw [e];rfl,?_⟩
    unfold D.dat
    rw [e]
    exact k2.1
   | cons t p =>
    refine ⟨fun hl=>(by cases hl),?_⟩
    obtain ⟨_,_,_,g1,g2,_⟩:=Own.splitAt (t::p) hown k1
    have e:(D.box l).at ((0,off)::t::p)=y.at (t::p):=by
     rw [D.at,hkid,hy,D.at_o hown (by simp)]
    unfold D.dat
    rw [e,g2.un.1]
    exact k2.1
theorem part_own {u:Value} {F1:Nat→Prop} {p:Path} (g2:PartOk w A R u F1 (cellLvl c p) (c.at p)) (hS:cellLvl c p=true→(c.at p).isO=true):Own w A u (c.dat p) F1:=by
 unfold PartOk at g2
 split at g2
 ·rename_i hl
  obtain ⟨y,hy⟩:=isO_some (hS hl)
  rw [hy] at g2
  simp only [D.dat,hy,D.un]
  exact g2
 ·simp only [D.dat]
  rw [g2.un.1]
  exact g2
theorem part_hol {u:Value} {p:Path} {w':World} {A':Nat→Prop} {R':Value→D→Prop}:PartOk w' A' R' u (fun _=>False) (cellLvl c p) (hol c p):=by
 unfold PartOk hol
 cases cellLvl c p with
 | true=>exact Own.dead
 | false=>exact Own.dead
theorem mem_cont (h:ContOk w A R v F c) {p:Path} (hp:c.hasC p) (hne:p≠[]) {a:Addr} (ha:adrAt w v c p=some a) {w':World} (hw:∀ b,F b→b≠a.block→w'.heap[b]?=w.heap[b]?) {q:Path} (hq:c.hasC q) :
  (q.length<p.length→valAt w' v c q=valAt w v c q)∧(q.length≤p.length→adrAt w' v c q=adrAt w v c q):=by
 obtain ⟨p0,s,rfl⟩:∃ p0 s,p=p0++[s]:=⟨p.dropLast,p.getLast hne,(List.dropLast_concat_getLast hne).symm⟩
 have short:∀ q:Path,c.hasC q→q.length≤p0.length→valAt w' v c q=valAt w v c q:=by
  intro q hq hl
  by_cases h0:p0=[]
  ·subst h0
   have:q=[]:=List.eq_nil_of_length_eq_zero (by simpa using hl)
   subst this;rfl
  ·have hp0:=hasC_pre hp
   obtain ⟨hS,hk⟩:=part_kid h hp h0
   obtain ⟨u,F1,F2,g1,g2,g3,g4,g5,g6,_⟩:=h.splitAt hp0 h0
   have hown:=part_own g2 hS
   have hab:F1 a.block:=by
    rw [adrAt_append w p0 [s] v c (by simp),g1,Option.bind_some] at ha
    obtain ⟨i,off⟩:=s
    have ha':kidA u (c.dat p0) i off=some a:=by
     have:kidA u (c.at p0) i off=kidA u (c.dat p0) i off:=by
      unfold D.dat kidA
      by_cases hh:∃ z,c.at p0=.o z
      ·obtain ⟨z,hz⟩:=hh
       rw [hz]
       have:(D.o z).un=z:=rfl
       rw [this]
       unfold D.dat at hown
       rw [hz] at hown
       have hzz:z.un=z:=hown.un.1
       rw [hzz]
      ·have:(c.at p0).un=c.at p0:=by
        generalize c.at p0=z at hh ⊢
        cases z<;>first | rfl | exact absurd ⟨_,rfl⟩ hh
       rw [this,this]
     rw [← this];exact ha
    obtain ⟨e1,e2,e3,e4⟩:=kid_tree hown i off
    obtain ⟨u',G1,G2,k1,k2,k3,k4,k5,k6,k7⟩:=hown.split (e2.1 hk)
    rw [e3] at ha'
    exact k4 _ (k7 a ha').1
   have hc0:ContOk w A R v F2 (c.setAt p0 (hol c p0)):=g6 w A R (fun _=>True) _ (fun _=>False) F2 (fun _ h=>h) (fun _ _=>rfl) (fun _ _=>rfl) part_hol (fun _ h=>h.elim) (okAtC_hol hp0 h0) (fun _ h=>h.elim) (fun _ h=>h) (refs_all (fun _=>trivial) _) (fun _ _ _ h=>h)
   obtain ⟨j1,j2,_⟩:=short_cont h hp0 h0 hq hl (okAtC_hol hp0 h0)
   have:=(valAt_cont (w':=w') hc0 j1 fun b hb=>hw b (g4 b hb) (by rintro rfl;exact g5 _ hab hb)).1
   rw [(j2 w').1,(j2 w).1] at this
   exact this
 refine ⟨fun hl=>short q hq (by simp at hl;omega),fun hl=>?_⟩
 cases hq0:q with
 | nil=>rfl
 | cons t r =>
  have hqne:q≠[]:=by rw [hq0];simp
  rw [← hq0]
  obtain ⟨q0,t',hq'⟩:∃ q0 t',q=q0++[t']:=⟨q.dropLast,q.getLast hqne,(List.dropLast_concat_getLast hqne).symm⟩
  rw [hq'] at hq hl ⊢
  rw [adrAt_append w' q0 [t'] v c (by simp),adrAt_append w q0 [t'] v c (by simp),short q0 (hasC_pre hq) (by simp at hl;omega)]
  rfl
end
section
variable {cx:Ctx} {ct:Nat→D} {vl:Nat→Value} {fp:Nat→Nat→Prop} {G:Nat→Prop} {w:World}
theorem Hp.take (h:Hp cx ct vl fp G w) {k:Nat} {p:Path} (hp':(ct k).hasS p) (hne:p≠[]) (hrefs:∀ j,(ct j).refs fun d=>qDeep k p d=false) :
  ∃ (u:Value) (F1 F2:Nat→Prop),valAt w (vl k) (ct k) p=some u∧Own w (stab cx fp G w) u ((ct k).dat p) F1∧(∀ b,F1 b→fp k b) ∧
   Hp cx (upd ct k ((ct k).setAt p (hol (ct k) p))) vl (upd fp k F2) (fun b=>G b∨F1 b) w∧(∀ b,F2 b→fp k b)∧∀ d,qDeep k p d=false→keepR w w ct (upd ct k ((ct k).setAt p (hol (ct k) p))) vl vl d:=by
 obtain ⟨hp,hok⟩:=hp'
 obtain ⟨u,F1,F2,g1,g2,g3,g4,g5,g6,g7⟩:=(h.ok k).splitAt hp hne
 have hown:=part_own g2 hok
 have hkk:=okAtC_hol hp hne
 obtain ⟨r1,r2⟩:=h.change (fun d=>qDeep k p d=false) (setAt_obj hp hne _) (g6 w (stab cx fp G w) _ (fun _=>True) (hol (ct k) p) (fun _=>False) F2 (fun _ h=>h) (fun _ _=>rfl) (fun _ _=>rfl) part_hol (fun _ h=>h.elim) hkk (fun _ h=>h.elim) (fun _ h=>h) (refs_all (fun _=>trivial) _) (fun _ _ _ h=>h))
  (fun j _=>hrefs j) (refs_setAt (h.ok k) hp hne (hrefs k) fun hl=>by unfold hol;rw [if_pos hl];trivial) (fun b hb=>.inl (g4 b hb)) (G':=fun b=>G b∨F1 b) (fun b hb=>hb.elim .inr fun h=>.inl (g3 b h)) (fun b hb hg=>hg.elim (h.disG k b (g4 b hb)) fun h=>g5 b h hb)
  rfl (fun _ _=>rfl) rfl rfl rfl
  (fun q hq hs=>by
    obtain ⟨j1,j2,j3⟩:=short_cont (h.ok k) hp hne hs.1 (qDeep_sub hq) hkk
    exact ⟨j3 (.inr fun hl=>by unfold hol;rw [if_pos hl];rfl) hs,(j2 w).1⟩)
  (fun q hq hs=>by
    obtain ⟨j1,j2,j3⟩:=short_cont (h.ok k) hp hne hs (qDeep_adr hq) hkk
    exact ⟨j1,(j2 w).2⟩)
 exact ⟨u,F1,F2,g1,hown,g3,r1,g4,r2⟩
theorem Hp.fill (h:Hp cx ct vl fp G w) {k:Nat} {p:Path} (hp':(ct k).hasS p) (hne:p≠[]) {u:Value} (hu:valAt w (vl k) (ct k) p=some u) {y:D} {Fy G':Nat→Prop} (hy:Own w (stab cx fp G w) u y Fy) (hag:y.isAgg=false)
  (hF:∀ b,Fy b→G b) (hG:∀ b,G' b→G b) (hFG:∀ b,Fy b→¬ G' b) (hrefs:∀ j,(ct j).refs fun d=>qDeep k p d=false) :
  Hp cx (upd ct k ((ct k).setAt p (if cellLvl (ct k) p=true then .o y else y))) vl (upd fp k fun b=>fp k b∨Fy b) G' w∧∀ d,qDeep k p d=false→keepR w w ct (upd ct k ((ct k).setAt p (if cellLvl (ct k) p=true then .o y else y))) vl vl d:=by
 obtain ⟨hp,hok⟩:=hp'
 obtain ⟨u',F1,F2,g1,g2,g3,g4,g5,g6,g7⟩:=(h.ok k).splitAt hp hne
 rw [hu] at g1
 injection g1 with g1
 subst g1
 have hkk:okAtC (ct k) p (if cellLvl (ct k) p=true then .o y else y):=by
  have nonagg:∀ (p:Path) (x:D) (y:D),y.isAgg=false→okAt x p y:=by
   intro p
   induction p with
   | nil=>intro x y _;trivial
   | cons s p ih =>
    intro x y hy
    cases p with
    | nil =>
     simp only [okAt]
     generalize x.un=z
     cases z<;>first | trivial | exact .inr hy
    | cons t p=>exact ih _ y hy
  revert hp
  cases ct k<;>intro hp<;>try exact hp.elim
  case row=>exact absurd hp hne
  case o x =>
   have:cellLvl (.o x) p=false:=by cases p<;>rfl
   rw [if_neg (by rw [this];simp)]
   exact nonagg p x y hag
  case box l =>
   cases p with
   | nil=>exact absurd rfl hne
   | cons s p=>cases p with
    | nil=>trivial
    | cons t p=>exact nonagg (t::p) _ y hag
 have hpart:PartOk w (stab cx fp G w) (RefOk w ct vl) u Fy (cellLvl (ct k) p) (if cellLvl (ct k) p=true then .o y else y):=by
  unfold PartOk
  cases cellLvl (ct k) p with
  | true=>exact hy
  | false=>exact hy
 refine h.change (fun d=>qDeep k p d=false) (setAt_obj hp hne _) (g6 w (stab cx fp G w) _ (fun _=>True) _ Fy _ (fun _ h=>h) (fun _ _=>rfl) (fun _ _=>rfl) hpart (fun b hb hb2=>h.disG k b (g4 b hb2) (hF b hb)) hkk (fun _ h=>.inr h) (fun b hb=>.inl (g4 b hb)) (refs_all (fun _=>trivial) _) (fun _ _ _ h=>h))
  (fun j _=>hrefs j) (refs_setAt (h.ok k) hp hne (hrefs k) fun hl=>by rw [if_pos hl];trivial) (fun b hb=>hb.imp id (hF b)) (fun b hb=>.inr (hG b hb)) (fun b hb hg=>hb.elim (fun h'=>h.disG k b h' (hG b hg)) fun h'=>hFG b h' hg)
  rfl (fun _ _=>rfl) rfl rfl rfl
  (fun q hq hs=>by
    obtain ⟨j1,j2,j3⟩:=short_cont (h.ok k) hp hne hs.1 (qDeep_sub hq) hkk
    exact ⟨j3 (.inr fun hl=>by rw [if_pos hl];rfl) hs,(j2 w).1⟩)
  (fun q hq hs=>by
    obtain ⟨j1,j2,j3⟩:=short_cont (h.ok k) hp hne hs (qDeep_adr hq) hkk
    exact ⟨j1,(j2 w).2⟩)
theorem Hp.store (h:Hp cx ct vl fp G w) {k:Nat} {p:Path} (hp:(ct k).hasC p) (hne:p≠[]) {a:Addr} (ha:adrAt w (vl k) (ct k) p=some a) {u':Value} {y:D} {Fy G':Nat→Prop}
  (hy:PartOk w (stab cx fp G w) (RefOk w ct vl) u' Fy (cellLvl (ct k) p) y) (hd:okAtC (ct k) p y) (hrefs:∀ j,(ct j).refs fun d=>qSt k p d=false) (hyr:cellLvl (ct k) p=true→y.refs fun d=>qSt k p d=false)
  (hF:∀ b,Fy b→G b) (hG:∀ b,G' b→G b) (hFG:∀ b,Fy b→¬ G' b) :
  (∃ u,w.cell? a=some u)∧w.frozen? a=false∧a.spot=none∧Hp cx (upd ct k ((ct k).setAt p y)) vl (upd fp k fun b=>fp k b∨Fy b) G' (w.setCell a u') ∧
    ∀ d,qSt k p d=false→keepR w (w.setCell a u') ct (upd ct k ((ct k).setAt p y)) vl vl d:=by
 obtain ⟨u,F1,F2,g1,g2,g3,g4,g5,g6,g7⟩:=(h.ok k).splitAt hp hne
 obtain ⟨j1,j2,j3,j3',j4⟩:=g7 a ha
 refine ⟨⟨u,j3⟩,j3',j2,?_⟩
 have hab:fp k a.block:=g4 _ j1
 have hother:∀ b,b≠a.block→(w.setCell a u').heap[b]?=w.heap[b]?:=fun b hb=>setCell_other u' hb
 refine h.change (fun d=>qSt k p d=false) (setAt_obj hp hne _) (j4 u' (w.setCell a u') (stab cx fp G w) (RefOk w ct vl) (fun _=>True) y Fy (fun b=>fp k b∨Fy b) (fun _ h=>h) (fun b hb=>hother b (by rintro rfl;exact hb.2.2 k hab)) (fun b _ hne=>hother b hne) rfl ?_ ?_ hd (fun _ h=>.inr h) (fun b hb=>.inl (g4 b hb)) (refs_all (fun _=>trivial) _) (fun _ _ _ h=>h))
  (fun j _=>hrefs j) (refs_setAt (h.ok k) hp hne (hrefs k) hyr) (fun b hb=>hb.imp id (hF b)) (fun b hb=>.inr (hG b hb)) (fun b hb hg=>hb.elim (fun h'=>h.disG k b h' (hG b hg)) fun h'=>hFG b h' hg)
  (by simp) (fun b hb=>hother b (by rintro rfl;exact hb hab)) rfl rfl rfl
  (fun q hq hs=>by
    obtain ⟨i1,i2,i3⟩:=short_cont (h.ok k) hp hne hs.1 (Nat.le_of_lt (qSt_sub hq)) hd
    obtain ⟨m1,_⟩:=mem_cont (h.ok k) hp hne ha (w':=w.setCell a u') (fun b _ hb=>hother b hb) hs.1
    exact ⟨i3 (.inl (qSt_sub hq)) hs,by rw [(i2 _).1];exact m1 (qSt_sub hq)⟩)
  (fun q hq hs=>by
    obtain ⟨i1,i2,i3⟩:=short_cont (h.ok k) hp hne hs (qSt_adr hq) hd
    obtain ⟨_,m2⟩:=mem_cont (h.ok k) hp hne ha (w':=w.setCell a u') (fun b _ hb=>hother b hb) hs
    exact ⟨i1,by rw [(i2 _).2];exact m2 (qSt_adr hq)⟩)
 ·have hFa:∀ b,Fy b→b≠a.block:=by rintro b hb rfl;exact h.disG k _ hab (hF _ hb)
  have hst:∀ b,stab cx fp G w b→b≠a.block:=by rintro b hb rfl;exact hb.2.2 k hab
  unfold PartOk at hy ⊢
  split
  ·rename_i hl
   rw [hl] at hy
   exact hy.mono (Q:=fun _=>True) (fun _ h=>h) (fun b hb=>hother b (hst b hb)) (fun b hb=>hother b (hFa b hb)) (fun _ h=>h) (refs_all (fun _=>trivial) _) (fun _ _ _ h=>h)
  ·rename_i hl
   rw [hl] at hy
   exact hy.mono (fun _ h=>h) (fun b hb=>hother b (hst b hb)) (fun b hb=>hother b (hFa b hb)) (fun _ h=>h)
 ·intro b hb hb2
  exact h.disG k b (g4 b hb2) (hF b hb)
end
end Go.D3
