/- HOW CONTENTS ARE SEEN: references. Generic. -/
import Derived.Test.YtgieggnpnepkfaaGreatDoorVals
namespace Go.D3
open Go
section
variable {w:World} {ct:Nat→D} {vl:Nat→Value} {A:Nat→Prop}
def Reach (w:World) (ct:Nat→D) (vl:Nat→Value) (k:Nat) (p:Path) (v:Value) (y:D):Prop :=
 ∀ q,y.has q→(ct k).hasC (p++q)∧valAt w (vl k) (ct k) (p++q)=valAt w v y q∧(q≠[]→adrAt w (vl k) (ct k) (p++q)=adrAt w v y q)
theorem Reach.kid {k:Nat} {p:Path} {v:Value} {y:D} (h:Reach w ct vl k p v y) {i off:Nat} (hk:y.hasKid i off) {u:Value} (hu:kidV w v y i off=some u):Reach w ct vl k (p++[(i,off)]) u (y.kid i off):=by
 intro q hq
 obtain ⟨h1,h2,h3⟩:=h ((i,off)::q) ⟨hk,hq⟩
 rw [List.append_assoc,List.singleton_append]
 refine ⟨h1,?_,fun hne=>?_⟩
 ·rw [h2];simp only [valAt,hu,Option.bind_some]
 ·rw [h3 (by simp)]
  cases q with
  | nil=>exact absurd rfl hne
  | cons t q=>simp only [adrAt,hu,Option.bind_some]
theorem Reach.root {k:Nat} {x:D} {F:Nat→Prop} (hc:ct k=.o x) (h:Own w A (vl k) x F):Reach w ct vl k [] (vl k) x:=by
 intro q hq
 rw [List.nil_append,hc]
 exact ⟨hq,(valAt_o h w q).1,fun _=>(valAt_o h w q).2⟩
theorem Reach.part {R:Value→D→Prop} {k:Nat} {F:Nat→Prop} (h:ContOk w A R (vl k) F (ct k)) {p:Path} (hp:(ct k).hasC p) (hne:p≠[]) {u:Value} (hu:valAt w (vl k) (ct k) p=some u) {F':Nat→Prop}
  (hlv:cellLvl (ct k) p=true→(ct k).at p=.o ((ct k).dat p)) (hown:Own w A u ((ct k).dat p) F'):Reach w ct vl k p u ((ct k).dat p):=by
 intro q hq
 have hval:∀ q,valAt w u ((ct k).at p) q=valAt w u ((ct k).dat p) q∧adrAt w u ((ct k).at p) q=adrAt w u ((ct k).dat p) q:=by
  intro q
  by_cases hl:(ct k).at p=.o ((ct k).dat p)
  ·rw [hl];exact valAt_o hown w q
  ·have:(ct k).at p=(ct k).dat p:=by
    unfold D.dat at hl ⊢
    generalize (ct k).at p=z at hl ⊢
    cases z<;>first | rfl | (exfalso;exact hl rfl)
   rw [this];exact ⟨rfl,rfl⟩
 refine ⟨?_,?_,fun hq'=>?_⟩
 ·revert hp hlv hq
  unfold D.dat
  intro hp hlv hq
  cases hc:ct k<;>rw [hc] at hp hlv hq<;>try exact hp.elim
  case row z l=>exact absurd hp hne
  case o x =>
   rw [hc] at h
   rw [D.at_o h hne] at hq
   have hx:(x.at p).un=x.at p:=by
    obtain ⟨_,_,_,g1,g2,_⟩:=Own.splitAt p h hp
    exact g2.un.1
   rw [hx] at hq
   exact (has_append x p q).2 ⟨hp,hq⟩
  case box l =>
   cases p with
   | nil=>exact absurd rfl hne
   | cons s p =>
    obtain ⟨i,off⟩:=s
    obtain ⟨rfl,ho,hp⟩:=hp
    have hk:D.kid (.box l) 0 off=l.getD off .dead:=rfl
    cases p with
    | nil =>
     cases q with
     | nil=>exact ⟨rfl,ho,trivial⟩
     | cons t q =>
      have hat:=hlv rfl
      have e:(D.box l).at [(0,off)]=l.getD off .dead:=rfl
      rw [e] at hat hq
      refine ⟨rfl,ho,?_⟩
      rw [hat]
      exact hq
    | cons t p =>
     simp only at hp
     split at hp
     ·rename_i y hy
      rw [hc] at h
      obtain ⟨_,b,cs,e,Fs,h1,h2,h3,h4,h5,h6,h7⟩:=h
      have hget:l[off]?=some (.o y):=by
       rw [List.getD_eq_getElem?_getD,List.getElem?_eq_getElem ho] at hy
       rw [List.getElem?_eq_getElem ho];simpa using hy
      have hown':=h4 off _ hget
      simp only [CellOk] at hown'
      have e:(D.box l).at ((0,off)::t::p)=y.at (t::p):=by rw [D.at,hk,hy,D.at_o hown' (by simp)]
      rw [e] at hq
      have hx:(y.at (t::p)).un=y.at (t::p):=by
       obtain ⟨_,_,_,g1,g2,_⟩:=Own.splitAt (t::p) hown' hp
       exact g2.un.1
      rw [hx] at hq
      refine ⟨rfl,ho,?_⟩
      rw [hy]
      exact (has_append y (t::p) q).2 ⟨hp,hq⟩
     ·exact hp.elim
 ·rw [valAt_append,hu,Option.bind_some];exact (hval q).1
 ·rw [adrAt_append w p q _ _ hq',hu,Option.bind_some];exact (hval q).2
theorem expoL_get (k:Nat) (p:Path):∀ (l:List D) (j n:Nat),(expoL k p j l)[n]?=(l[n]?).map (expo k (p++[(0,j+n)]))
 | [],j,n=>by simp [expoL]
 | x::r,j,0=>by simp [expoL]
 | x::r,j,n+1=>by
  simp only [expoL,List.getElem?_cons_succ,expoL_get k p r (j+1) n]
  rw [show j+1+n=j+(n+1) by omega]
theorem expoL_length (k:Nat) (p:Path):∀ (l:List D) (j:Nat),(expoL k p j l).length=l.length
 | [],_=>rfl
 | x::r,j=>by simp [expoL,expoL_length k p r]
theorem lvl_two (c:D) (p:Path) (s t:Nat×Nat):cellLvl c (p++[s]++[t])=false:=by
 have:∃ a b r,p++[s]++[t]=a::b::r:=by
  cases p with
  | nil=>exact ⟨s,t,[],rfl⟩
  | cons a p=>cases p with
   | nil=>exact ⟨a,s,[t],rfl⟩
   | cons b p=>exact ⟨a,b,p++[s]++[t],rfl⟩
 obtain ⟨a,b,r,h⟩:=this
 rw [h]
 cases c<;>rfl
theorem expo_ok {k:Nat} (y:D):∀ {p:Path} {v:Value} {F:Nat→Prop},Own w A v y F→(cellLvl (ct k) p=true→((ct k).at p).isO=true)→(∀ s,cellLvl (ct k) (p++[s])=false)→Reach w ct vl k p v y→Pl w A (RefOk w ct vl) v (expo k p y):=by
 induction y using D.ind with
 | int a n=>intro p v F h _ _ _;cases h with | int h=>exact .rd (.int h)
 | bool b=>intro p v F h _ _ _;cases h;exact .rd .bool
 | str s=>intro p v F h _ _ _;cases h with | str h=>exact .rd (.str h)
 | nilp=>intro p v F h _ _ _;cases h;exact .rd .nilp
 | fn f caps _=>intro p v F h _ _ _;cases h;exact .rd (.fn rfl (fun j x hx=>by simp at hx))
 | vw x _=>intro p v F h _ _ _;cases h with | vw h=>exact .rd h
 | slice z l _ _ =>
  intro p v F h hS hN hr
  obtain ⟨h1,h2,_⟩:=hr [] trivial
  rw [List.append_nil] at h1 h2
  refine .ref ⟨⟨h1,hS⟩,h2,?_⟩
  cases h with
  | nil=>exact .inl ⟨_,_,_,rfl⟩
  | slice=>exact .inl ⟨_,_,_,rfl⟩
 | mp ks vs _ _ =>
  intro p v F h hS hN hr
  obtain ⟨h1,h2,_⟩:=hr [] trivial
  rw [List.append_nil] at h1 h2
  refine .ref ⟨⟨h1,hS⟩,h2,?_⟩
  cases h with
  | mp=>exact .inr ⟨_,rfl⟩
 | nmp=>intro p v F h _ _ _;cases h;exact .rd .nmp
 | nifc=>intro p v F h _ _ _;cases h;exact .rd .nifc
 | itr s p=>intro p v F h _ _ _;exact Pl.dead
 | sent n=>intro p v F h _ _ _;exact Pl.dead
 | ifc t x _=>intro p v F h _ _ _;cases h with | ifc h=>exact .rd (.ifc h)
 | ptr l _ =>
  intro p v F h hS hN hr
  cases l with
  | nil=>exact Pl.dead
  | cons x r =>
   have hun:=h.un.1
   obtain ⟨h1,_,h3⟩:=hr [(0,0)] ⟨by unfold D.hasKid;rw [hun];exact ⟨rfl,by simp⟩,trivial⟩
   have h3:=h3 (by simp)
   simp only [expo]
   cases h with
   | ptr Fs hb hs hr' hF hfs hdis =>
    refine .ref ⟨h1,_,h3,?_⟩
    simp only [Nat.add_zero]
 | agg l ih =>
  intro p v F h hS hN hr
  cases h with
  | @agg cs _ _ Fs hs hr' hfs hdis =>
   refine .agg (by rw [expoL_length];exact hs) fun j x hx=>?_
   rw [expoL_get,Option.map_eq_some_iff] at hx
   obtain ⟨y,hy,rfl⟩:=hx
   obtain ⟨hj,hy'⟩:=List.getElem?_eq_some_iff.1 hy
   rw [Nat.zero_add]
   have hk:(D.agg l).kid 0 j=y:=by
    show l.getD j .dead=y
    rw [List.getD_eq_getElem?_getD,hy];rfl
   have:=Reach.kid (i:=0) (off:=j) (u:=cs.getD j undef) hr ⟨rfl,hj⟩ rfl
   rw [hk] at this
   exact ih y (List.mem_of_getElem? hy) (hr' j y hy) (fun hl=>by rw [hN] at hl;cases hl) (fun s=>lvl_two _ _ _ s) this
 | tup l ih =>
  intro p v F h hS hN hr
  cases h with
  | @tup cs _ _ Fs hs hr' hfs hdis =>
   refine .tup (by rw [expoL_length];exact hs) fun j x hx=>?_
   rw [expoL_get,Option.map_eq_some_iff] at hx
   obtain ⟨y,hy,rfl⟩:=hx
   obtain ⟨hj,hy'⟩:=List.getElem?_eq_some_iff.1 hy
   rw [Nat.zero_add]
   have hk:(D.tup l).kid 0 j=y:=by
    show l.getD j .dead=y
    rw [List.getD_eq_getElem?_getD,hy];rfl
   have:=Reach.kid (i:=0) (off:=j) (u:=cs.getD j undef) hr ⟨rfl,hj⟩ rfl
   rw [hk] at this
   exact ih y (List.mem_of_getElem? hy) (hr' j y hy) (fun hl=>by rw [hN] at hl;cases hl) (fun s=>lvl_two _ _ _ s) this
 | _=>intro p v F h _ _ _;exact Pl.dead
def PlG (w:World) (A:Nat→Prop) (R:Value→D→Prop) (v:Value) (d:D):Prop:=(d.gate=true→Pl w A R v d.core)∧(d.gate=false→v=undef)
theorem core_of {d:D} (h:∀ g x,d≠.when g x):d.core=d∧d.gate=true:=by
 cases d<;>first | exact ⟨rfl,rfl⟩ | exact absurd rfl (h _ _)
theorem Pl.plg {R:Value→D→Prop} {v:Value} {d:D} (h:Pl w A R v d) (hR:∀ v g x,¬ R v (.when g x)):PlG w A R v d:=by
 have:∀ g x,d≠.when g x:=by
  rintro g x rfl
  cases h with
  | rd h=>cases h
  | ref h=>exact hR _ _ _ h
 obtain ⟨h1,h2⟩:=core_of this
 exact ⟨fun _=>by rw [h1];exact h,fun hh=>by rw [h2] at hh;cases hh⟩
theorem ref_when (v:Value) (g:Bool) (x:D):¬ RefOk w ct vl v (.when g x):=fun h=>h
theorem opv_ok {k:Nat} {F:Nat→Prop} (h:ContOk w A (RefOk w ct vl) (vl k) F (ct k)):PlG w A (RefOk w ct vl) (vl k) (opv k (ct k)):=by
 cases hc:ct k<;>rw [hc] at h<;>try exact Pl.plg h ref_when
 case o x=>exact Pl.plg (expo_ok x h (fun hl=>by rw [hc] at hl;cases hl) (fun s=>by rw [hc];rfl) (Reach.root hc h)) ref_when
 case box l =>
  obtain ⟨h0,b,cs,e,Fs,h1,h2,h3,h4,h5,h6,h7⟩:=h
  refine Pl.plg (.ref ⟨?_,⟨b,0,none⟩,?_,h1⟩) ref_when
  ·rw [hc];exact ⟨rfl,h0,trivial⟩
  ·rw [hc,h1];rfl
 case row z l =>
  refine Pl.plg (.ref ⟨?_,?_,?_⟩) ref_when
  ·rw [hc];exact ⟨rfl,fun hl=>by cases hl⟩
  ·rfl
  ·obtain ⟨b,sz,cs,e,h1,_⟩:=h
   exact .inl ⟨_,_,_,h1⟩
 case when g c =>
  obtain ⟨h1,h2⟩:=h
  have key:∀ (c:D),(g=true→Pl w A (RefOk w ct vl) (vl k) c)→(g=true→PlG w A (RefOk w ct vl) (vl k) c):=fun c h hg=>(h hg).plg ref_when
  have h1:=key c h1
  show PlG w A _ _ (.when g c)
  cases g with
  | true=>exact ⟨fun hg=>(h1 rfl).1 (by simpa [D.gate] using hg),fun hg=>(h1 rfl).2 (by simpa [D.gate] using hg)⟩
  | false=>exact ⟨fun hg=>by simp [D.gate] at hg,fun _=>h2 rfl⟩
theorem lvl_snoc {c:D} {p:Path} (hp:p≠[]) (s:Nat×Nat):cellLvl c (p++[s])=false:=by
 cases p with
 | nil=>exact absurd rfl hp
 | cons a p=>cases p<;>cases c<;>rfl
theorem look_ok {k:Nat} {F:Nat→Prop} (h:ContOk w A (RefOk w ct vl) (vl k) F (ct k)) {p:Path} (hp:(ct k).hasC p) (hne:p≠[]) {a:Addr} (ha:adrAt w (vl k) (ct k) p=some a) :
  ∃ u,w.cell? a=some u∧a.spot=none∧Pl w A (RefOk w ct vl) u (lookC k (ct k) p):=by
 obtain ⟨u,F1,F2,g1,g2,g3,g4,g5,g6,g7⟩:=h.splitAt hp hne
 obtain ⟨j1,j2,j3,_⟩:=g7 a ha
 refine ⟨u,j3,j2,?_⟩
 unfold lookC PartOk at *
 cases hl:cellLvl (ct k) p with
 | true =>
  rw [hl] at g2
  simp only at g2 ⊢
  generalize hc:(ct k).at p=c at g2
  cases c<;>try exact g2
  all_goals try exact g2.elim
  case o x =>
   have hd:(ct k).dat p=x:=by unfold D.dat;rw [hc];rfl
   have:=Reach.part h hp hne g1 (fun _=>by rw [hd,hc]) (by rw [hd];exact g2)
   rw [hd] at this
   exact expo_ok x g2 (fun _=>by rw [hc];rfl) (lvl_snoc hne) this
 | false =>
  rw [hl] at g2
  simp only at g2 ⊢
  have hd:(ct k).dat p=(ct k).at p:=g2.un.1
  have:=Reach.part h hp hne g1 (fun hh=>by rw [hl] at hh;cases hh) (by rw [hd];exact g2)
  rw [hd] at this
  exact expo_ok _ g2 (fun hh=>by rw [hl] at hh;cases hh) (lvl_snoc hne) this
theorem sub_ok {k:Nat} {F:Nat→Prop} (h:ContOk w A (RefOk w ct vl) (vl k) F (ct k)) {p:Path} {v:Value} (hr:RefOk w ct vl v (.sub k p)) :
  (∃ z l,ct k=.row z l∧p=[]∧v=vl k)∨(∃ F',Own w A v ((ct k).dat p) F'∧(∀ b,F' b→F b)∧Reach w ct vl k p v ((ct k).dat p)∧(∀ z l,ct k≠.row z l)):=by
 obtain ⟨⟨h1,hS⟩,h2,hsl⟩:=hr
 cases p with
 | nil =>
  simp only [valAt,Option.some.injEq] at h2
  cases hc:ct k<;>rw [hc] at h h1<;>try exact h1.elim
  case o x =>
   refine .inr ⟨F,by rw [← h2];exact h,fun _ h=>h,?_,by simp⟩
   rw [← h2]
   exact Reach.root hc h
  case box l =>
   obtain ⟨_,b,cs,e,Fs,h3,_⟩:=h
   rw [← h2,h3] at hsl
   rcases hsl with ⟨_,_,_,hh⟩ | ⟨_,hh⟩<;>cases hh
  case row z l=>exact .inl ⟨z,l,rfl,rfl,h2.symm⟩
 | cons s p =>
  obtain ⟨u,F1,F2,g1,g2,g3,g4,g5,g6,g7⟩:=h.splitAt h1 (by simp)
  rw [g1] at h2
  injection h2 with h2
  subst h2
  have hrow:∀ z l,ct k≠.row z l:=by
   intro z l hc;rw [hc] at h1;exact absurd h1 (by simp [D.hasC])
  unfold PartOk at g2
  cases hl:cellLvl (ct k) (s::p) with
  | false =>
   rw [hl] at g2
   simp only at g2
   have hd:(ct k).dat (s::p)=(ct k).at (s::p):=g2.un.1
   have hown:Own w A u ((ct k).dat (s::p)) F1:=by rw [hd];exact g2
   exact .inr ⟨F1,hown,g3,Reach.part h h1 (by simp) g1 (fun hh=>by rw [hl] at hh;cases hh) hown,hrow⟩
  | true =>
   rw [hl] at g2
   simp only at g2
   obtain ⟨x,hat⟩:=isO_some (hS hl)
   rw [hat] at g2
   have hd:(ct k).dat (s::p)=x:=by unfold D.dat;rw [hat];rfl
   have hown:Own w A u ((ct k).dat (s::p)) F1:=by rw [hd];exact g2
   exact .inr ⟨F1,hown,g3,Reach.part h h1 (by simp) g1 (fun _=>by rw [hd,hat]) hown,hrow⟩
end
end Go.D3
