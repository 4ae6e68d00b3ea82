/- OBJECTS GO BY OTHER NUMBERS;CALLS THAT SLOTS ARE LENT TO. Generic. -/
import Derived.Test.YtgieggnpnepkfaaGreatDoorLend
namespace Go.D3
open Go
theorem upd_self {α:Type} (f:Nat→α) (k:Nat):upd f k (f k)=f:=by
 funext j;simp only [upd];split<;>simp_all
theorem renL_map (σ:Nat→Nat):∀ l,renL σ l=l.map (D.ren σ)
 | []=>rfl
 | x::r=>by rw [renL,renL_map σ r,List.map_cons]
theorem renL_length (σ:Nat→Nat) (l:List D):(renL σ l).length=l.length:=by rw [renL_map,List.length_map]
theorem renL_getD (σ:Nat→Nat) (l:List D) (n:Nat):(renL σ l).getD n .dead=(l.getD n .dead).ren σ:=by
 rw [renL_map,List.getD_eq_getElem?_getD,List.getD_eq_getElem?_getD,List.getElem?_map]
 cases l[n]?<;>rfl
theorem nth_renL (σ:Nat→Nat):∀ (l:List D) (i:Nat),nth (renL σ l) i=(nth l i).ren σ
 | [],_=>rfl
 | _::_,0=>rfl
 | _::l,i+1=>nth_renL σ l i
theorem ren_o {σ:Nat→Nat} {c y:D}:c.ren σ=.o y↔c=.o y:=by
 cases c<;>simp only [D.ren,reduceCtorEq]
theorem ren_dead {σ:Nat→Nat} {c:D}:c.ren σ=.dead↔c=.dead:=by
 cases c<;>simp only [D.ren,reduceCtorEq]
theorem isObj_ren (σ:Nat→Nat) (c:D):(c.ren σ).isObj=c.isObj:=by cases c<;>rfl
theorem ren_at_o (σ:Nat→Nat) {c:D} {p:Path} (hl:cellLvl c p=true):((c.ren σ).at p).isO=(c.at p).isO:=by
 cases c<;>try (cases hl;done)
 case box l =>
  match p,hl with
  | [(i,off)],_ =>
   have e1:(D.box l).at [(i,off)]=l.getD off .dead:=rfl
   have e2:((D.box l).ren σ).at [(i,off)]=(l.getD off .dead).ren σ:=renL_getD σ l off
   rw [e1,e2]
   cases l.getD off .dead<;>rfl
theorem ren_lvl (σ:Nat→Nat) (c:D) (p:Path):cellLvl (c.ren σ) p=cellLvl c p:=by
 cases c<;>try rfl
 case box l=>match p with
  | []=>rfl
  | [_]=>rfl
  | _::_::_=>rfl
theorem ren_keep {w:World} (σ:Nat→Nat) (c:D) (v:Value) (p:Path):((c.ren σ).hasC p↔c.hasC p)∧(c.hasC p→valAt w v (c.ren σ) p=valAt w v c p∧adrAt w v (c.ren σ) p=adrAt w v c p):=by
 cases c<;>try exact ⟨Iff.rfl,fun h=>h.elim⟩
 case o x=>exact ⟨Iff.rfl,fun _=>⟨rfl,rfl⟩⟩
 case row z l =>
  refine ⟨Iff.rfl,fun h=>?_⟩
  simp only [D.hasC] at h;subst h;exact ⟨rfl,rfl⟩
 case box l =>
  cases p with
  | nil=>exact ⟨Iff.rfl,fun _=>⟨rfl,rfl⟩⟩
  | cons s p =>
   obtain ⟨i,off⟩:=s
   have hk:D.kid (.box (renL σ l)) 0 off=(l.getD off .dead).ren σ:=renL_getD σ l off
   have hkv:kidV w v (.box (renL σ l)) 0 off=kidV w v (.box l) 0 off:=rfl
   cases p with
   | nil =>
    refine ⟨?_,?_⟩
    ·simp only [D.ren,D.hasC,renL_map,List.length_map]
    ·rintro ⟨rfl,ho,hp⟩
     exact ⟨by simp only [D.ren,valAt,hkv],rfl⟩
   | cons t p =>
    have hk':D.kid (.box l) 0 off=l.getD off .dead:=rfl
    refine ⟨?_,?_⟩
    ·simp only [D.ren,D.hasC,renL_getD,renL_length]
     cases l.getD off .dead<;>simp only [D.ren]
    ·rintro ⟨rfl,ho,hp⟩
     simp only at hp
     split at hp
     ·rename_i y hy
      have hy':(l.getD off .dead).ren σ=.o y:=ren_o.2 hy
      rw [hy'] at hk
      rw [hy] at hk'
      refine ⟨?_,?_⟩
      ·simp only [D.ren];rw [valAt,valAt,hkv,hk,hk']
      ·simp only [D.ren];rw [adrAt,adrAt,hkv,hk,hk']<;>simp
     ·exact hp.elim
theorem ren_bare {σ:Nat→Nat} (c:D) (h:c.refs fun _=>False):c.ren σ=c:=by
 have list:∀ l:List D,(∀ x∈l,x.refs (fun _=>False)→x.ren σ=x)→refsL (fun _=>False) l→renL σ l=l:=by
  intro l ih hl
  rw [renL_map]
  conv=>rhs;rw [← List.map_id l]
  exact List.map_congr_left fun x hx=>ih x hx (refsL_iff.1 hl x hx)
 induction c using D.ind with
 | sub k p=>exact h.elim
 | adr k p=>exact h.elim
 | pre k p n=>exact h.elim
 | agg l ih | tup l ih | box l ih | fn _ l ih=>simp only [D.ren];rw [list l ih h]
 | row z l _ ih=>simp only [D.ren];rw [list l ih h]
 | when g x ih=>simp only [D.ren];rw [ih h]
 | _=>rfl
theorem ren_ren (σ ρ:Nat→Nat) (c:D):(c.ren σ).ren ρ=c.ren (fun i=>ρ (σ i)):=by
 have list:∀ l:List D,(∀ x∈l,(x.ren σ).ren ρ=x.ren fun i=>ρ (σ i))→renL ρ (renL σ l)=renL (fun i=>ρ (σ i)) l:=by
  intro l ih
  rw [renL_map,renL_map,renL_map,List.map_map]
  exact List.map_congr_left ih
 induction c using D.ind with
 | agg l ih | tup l ih | box l ih | fn _ l ih=>simp only [D.ren];rw [list l ih]
 | row z l _ ih=>simp only [D.ren];rw [list l ih]
 | when g x ih=>simp only [D.ren];rw [ih]
 | _=>rfl
theorem ren_id (c:D):c.ren (fun i=>i)=c:=by
 have list:∀ l:List D,(∀ x∈l,x.ren (fun i=>i)=x)→renL (fun i=>i) l=l:=by
  intro l ih
  rw [renL_map]
  conv=>rhs;rw [← List.map_id l]
  exact List.map_congr_left ih
 induction c using D.ind with
 | agg l ih | tup l ih | box l ih | fn _ l ih=>simp only [D.ren];rw [list l ih]
 | row z l _ ih=>simp only [D.ren];rw [list l ih]
 | when g x ih=>simp only [D.ren];rw [ih]
 | _=>rfl
theorem ren_refs {Q Q':D→Prop} {σ:Nat→Nat} {c:D} (h:c.refs Q) (hQ:∀ k p,(Q (.sub k p)→Q' (.sub (σ k) p))∧(Q (.adr k p)→Q' (.adr (σ k) p))):(c.ren σ).refs Q':=by
 induction c using D.ind with
 | agg l ih | tup l ih | box l ih | fn _ l ih =>
  simp only [D.ren,D.refs,renL_map,refsL_iff,List.mem_map] at h ⊢
  rintro _ ⟨y,hy,rfl⟩;exact ih y hy (h y hy)
 | row z l _ ih =>
  simp only [D.ren,D.refs,renL_map,refsL_iff,List.mem_map] at h ⊢
  rintro _ ⟨y,hy,rfl⟩;exact ih y hy (h y hy)
 | when g x ih=>exact ih h
 | sub k p=>exact (hQ k p).1 h
 | adr k p=>exact (hQ k p).2 h
 | pre k p n=>exact (hQ k p).1 h
 | _=>trivial
section
variable {w:World} {A:Nat→Prop} {R R':Value→D→Prop} {v:Value} {F:Nat→Prop} {σ:Nat→Nat}
theorem Pl.ren {Q:D→Prop} {c:D} (h:Pl w A R v c):c.refs Q→(∀ v d,d.refs Q→R v d→R' v (d.ren σ))→Pl w A R' v (c.ren σ):=by
 induction h with
 | rd h=>exact fun _ _=>by rw [ren_bare _ (h.norefs _)];exact .rd h
 | ref h=>exact fun hq hR=>.ref (hR _ _ hq h)
 | agg hs _ ih =>
  refine fun hq hR=>.agg (by simpa [renL_map] using hs) fun j x hx=>?_
  rw [renL_map,List.getElem?_map,Option.map_eq_some_iff] at hx
  obtain ⟨y,hy,rfl⟩:=hx
  exact ih j y hy (refsL_iff.1 hq y (List.mem_of_getElem? hy)) hR
 | tup hs _ ih =>
  refine fun hq hR=>.tup (by simpa [renL_map] using hs) fun j x hx=>?_
  rw [renL_map,List.getElem?_map,Option.map_eq_some_iff] at hx
  obtain ⟨y,hy,rfl⟩:=hx
  exact ih j y hy (refsL_iff.1 hq y (List.mem_of_getElem? hy)) hR
 | fn hs _ ih =>
  refine fun hq hR=>.fn (by simpa [renL_map] using hs) fun j x hx=>?_
  rw [renL_map,List.getElem?_map,Option.map_eq_some_iff] at hx
  obtain ⟨y,hy,rfl⟩:=hx
  exact ih j y hy (refsL_iff.1 hq y (List.mem_of_getElem? hy)) hR
theorem CellOk.ren {Q:D→Prop} {c:D} (h:CellOk w A R v F c) (hq:c.refs Q) (hR:∀ v d,d.refs Q→R v d→R' v (d.ren σ)):CellOk w A R' v F (c.ren σ):=by
 cases c<;>first | exact Pl.ren h hq hR | exact h.elim | exact h
theorem ren_cells (σ:Nat→Nat) (x:D):(x.ren σ).cells=x.cells.map (D.ren σ):=by
 cases x<;>first | rfl | simp only [D.ren,D.cells,renL_map]
theorem ren_pc {c:D} (h:c.pc=true):(c.ren σ).pc=true:=by
 cases c<;>first | exact h | rfl | (simp [D.pc] at h)
theorem cellAt_ren (σ:Nat→Nat) (l:List D) (sz j:Nat):cellAt (l.map (D.ren σ)) sz j=(cellAt l sz j).map (D.ren σ):=by
 unfold cellAt
 rw [List.getElem?_map]
 cases l[j / sz]? with
 | none=>rfl
 | some d=>simp only [Option.map_some,Option.bind_some,ren_cells,List.getElem?_map]
theorem ContOk.ren {Q:D→Prop} {c:D} (h:ContOk w A R v F c) (hq:c.refs Q) (hR:∀ v d,d.refs Q→R v d→R' v (d.ren σ)):ContOk w A R' v F (c.ren σ):=by
 cases c
 case o x=>exact h
 case box l =>
  obtain ⟨h0,b,cs,e,Fs,h1,h2,h3,h4,h5,h6,h7⟩:=h
  simp only [D.ren,renL_map]
  refine ⟨by simpa using h0,b,cs,e,Fs,h1,h2,by simpa using h3,fun j c hj=>?_,h5,h6,h7⟩
  rw [List.getElem?_map,Option.map_eq_some_iff] at hj
  obtain ⟨y,hy,rfl⟩:=hj
  exact (h4 j y hy).ren (refsL_iff.1 hq y (List.mem_of_getElem? hy)) hR
 case row z l =>
  obtain ⟨b,sz,cs,e,h1,h2,h3,h3',h3'',h3a,h3b,h4,h5⟩:=h
  simp only [D.ren,renL_map]
  refine ⟨b,sz,cs,e,by simpa using h1,h2,by simpa using h3,by simpa using h3',h3'',h3a,fun x hx=>?_,fun j c hj=>?_,h5⟩
  ·obtain ⟨y,hy,rfl⟩:=List.mem_map.1 hx
   rw [ren_cells,List.length_map]
   exact h3b y hy
  ·rw [cellAt_ren,Option.map_eq_some_iff] at hj
   obtain ⟨y,hy,rfl⟩:=hj
   have hq':refsL Q l:=hq
   exact ⟨(h4 j y hy).1.ren (refs_cellAt (fun x hx=>refsL_iff.1 hq' x hx) hy) hR,ren_pc (h4 j y hy).2⟩
 case when g x=>exact ⟨fun hg=>(h.1 hg).ren hq hR,h.2⟩
 all_goals exact Pl.ren h hq hR
theorem RefOk.ren {ct ct':Nat→D} {vl vl':Nat→Value} {d:D} (h:RefOk w ct vl v d) (hct:∀ k,ct k≠.dead→ct' (σ k)=(ct k).ren σ) (hvl:∀ k,ct k≠.dead→vl' (σ k)=vl k):RefOk w ct' vl' v (d.ren σ):=by
 have nd:∀ {k:Nat} {p:Path},(ct k).hasC p→ct k≠.dead:=fun h hh=>by rw [hh] at h;exact h
 cases d<;>try exact h.elim
 case sub k p =>
  obtain ⟨⟨h1,h1'⟩,h2,h3⟩:=h
  have hk:=ren_keep (w:=w) σ (ct k) (vl k) p
  refine ⟨⟨?_,fun hl=>?_⟩,?_,h3⟩
  ·rw [hct k (nd h1)];exact hk.1.2 h1
  ·rw [hct k (nd h1)] at hl ⊢
   rw [ren_lvl] at hl
   rw [ren_at_o σ hl];exact h1' hl
  ·rw [hct k (nd h1),hvl k (nd h1),(hk.2 h1).1];exact h2
 case pre k p n =>
  obtain ⟨q,m,c,⟨⟨h1,h1'⟩,h2⟩,h3,h4⟩:=h
  have hk:=ren_keep (w:=w) σ (ct k) (vl k) p
  refine ⟨q,m,c,⟨⟨?_,fun hl=>?_⟩,?_⟩,h3,h4⟩
  ·rw [hct k (nd h1)];exact hk.1.2 h1
  ·rw [hct k (nd h1)] at hl ⊢
   rw [ren_lvl] at hl
   rw [ren_at_o σ hl];exact h1' hl
  ·rw [hct k (nd h1),hvl k (nd h1),(hk.2 h1).1];exact h2
 case adr k p =>
  obtain ⟨h1,a,h2,h3⟩:=h
  have hk:=ren_keep (w:=w) σ (ct k) (vl k) p
  refine ⟨?_,a,?_,h3⟩
  ·rw [hct k (nd h1)];exact hk.1.2 h1
  ·rw [hct k (nd h1),hvl k (nd h1),(hk.2 h1).2];exact h2
theorem RefOk.unren {ct ct':Nat→D} {vl vl':Nat→Value} {d:D} (h:RefOk w ct' vl' v (d.ren σ)) (hct:∀ k,ct' (σ k)=(ct k).ren σ) (hvl:∀ k,ct k≠.dead→vl' (σ k)=vl k):RefOk w ct vl v d:=by
 cases d<;>try exact h.elim
 case sub k p =>
  obtain ⟨⟨h1,h1'⟩,h2,h3⟩:=h
  have hk:=ren_keep (w:=w) σ (ct k) (vl k) p
  rw [hct k] at h1 h1' h2
  have h0:=hk.1.1 h1
  have nd:ct k≠.dead:=fun hh=>by rw [hh] at h0;exact h0
  refine ⟨⟨h0,fun hl=>?_⟩,?_,h3⟩
  ·rw [← ren_at_o σ hl];exact h1' (by rw [ren_lvl];exact hl)
  ·rw [← (hk.2 h0).1,← hvl k nd];exact h2
 case pre k p n =>
  obtain ⟨q,m,c,⟨⟨h1,h1'⟩,h2⟩,h3,h4⟩:=h
  have hk:=ren_keep (w:=w) σ (ct k) (vl k) p
  rw [hct k] at h1 h1' h2
  have h0:=hk.1.1 h1
  have nd:ct k≠.dead:=fun hh=>by rw [hh] at h0;exact h0
  refine ⟨q,m,c,⟨⟨h0,fun hl=>?_⟩,?_⟩,h3,h4⟩
  ·rw [← ren_at_o σ hl];exact h1' (by rw [ren_lvl];exact hl)
  ·rw [← (hk.2 h0).1,← hvl k nd];exact h2
 case adr k p =>
  obtain ⟨h1,a,h2,h3⟩:=h
  have hk:=ren_keep (w:=w) σ (ct k) (vl k) p
  rw [hct k] at h1 h2
  have h0:=hk.1.1 h1
  have nd:ct k≠.dead:=fun hh=>by rw [hh] at h0;exact h0
  refine ⟨h0,a,?_,h3⟩
  rw [← (hk.2 h0).2,← hvl k nd];exact h2
def outR (σ:Nat→Nat):D→Prop
 | .sub k _=>∃ i,k=σ i
 | .adr k _=>∃ i,k=σ i
 | _=>True
theorem ren_outR (c:D):(c.ren σ).refs (outR σ) :=
 ren_refs (Q:=fun _=>True) (refs_all (fun _=>trivial) c) fun _ _=>⟨fun _=>⟨_,rfl⟩,fun _=>⟨_,rfl⟩⟩
theorem exists_inv (hσ:∀ i j,σ i=σ j→i=j):∃ ρ:Nat→Nat,∀ i,ρ (σ i)=i:=by
 classical
 refine ⟨fun k=>if h:∃ i,σ i=k then Classical.choose h else 0,fun i=>?_⟩
 have h:∃ j,σ j=σ i:=⟨i,rfl⟩
 simp only [dif_pos h]
 exact hσ _ _ (Classical.choose_spec h)
theorem unren_refOk (_:∀ i j,σ i=σ j→i=j) {ρ:Nat→Nat} (hρ:∀ i,ρ (σ i)=i) {ct ct':Nat→D} {vl vl':Nat→Value} (hct:∀ k,ct' (σ k)=(ct k).ren σ) (hvl:∀ k,ct k≠.dead→vl' (σ k)=vl k) :
  ∀ v d,d.refs (outR σ)→RefOk w ct' vl' v d→RefOk w ct vl v (d.ren ρ):=by
 intro v d hq hr
 have e:(d.ren ρ).ren σ=d:=by
  cases d<;>try exact hr.elim
  case sub k p=>obtain ⟨i,rfl⟩:=hq;simp only [D.ren,hρ]
  case adr k p=>obtain ⟨i,rfl⟩:=hq;simp only [D.ren,hρ]
  case pre k p n=>obtain ⟨i,rfl⟩:=hq;simp only [D.ren,hρ]
 exact RefOk.unren (σ:=σ) (by rw [e];exact hr) hct hvl
theorem ren_back {ρ:Nat→Nat} (hρ:∀ i,ρ (σ i)=i) (c:D):(c.ren σ).ren ρ=c:=by
 rw [ren_ren,show (fun i=>ρ (σ i))=fun i=>i from funext hρ,ren_id]
theorem ContOk.unren (hσ:∀ i j,σ i=σ j→i=j) {ct ct':Nat→D} {vl vl':Nat→Value} {c:D} (h:ContOk w A (RefOk w ct' vl') v F (c.ren σ)) (hct:∀ k,ct' (σ k)=(ct k).ren σ) (hvl:∀ k,ct k≠.dead→vl' (σ k)=vl k) :
  ContOk w A (RefOk w ct vl) v F c:=by
 obtain ⟨ρ,hρ⟩:=exists_inv hσ
 have:=h.ren (Q:=outR σ) (σ:=ρ) (R':=RefOk w ct vl) (ren_outR c) (unren_refOk hσ hρ hct hvl)
 rwa [ren_back hρ] at this
theorem Pl.unren (hσ:∀ i j,σ i=σ j→i=j) {ct ct':Nat→D} {vl vl':Nat→Value} {c:D} (h:Pl w A (RefOk w ct' vl') v (c.ren σ)) (hct:∀ k,ct' (σ k)=(ct k).ren σ) (hvl:∀ k,ct k≠.dead→vl' (σ k)=vl k) :
  Pl w A (RefOk w ct vl) v c:=by
 obtain ⟨ρ,hρ⟩:=exists_inv hσ
 have:=h.ren (Q:=outR σ) (σ:=ρ) (R':=RefOk w ct vl) (ren_outR c) (unren_refOk hσ hρ hct hvl)
 rwa [ren_back hρ] at this
theorem tightL_all:∀ {l:List D},tightL l=true→∀ x∈l,x.tight=true
 | [],_,x,hx=>by cases hx
 | y::r,h,x,hx=>by
  simp only [tightL,Bool.and_eq_true] at h
  rcases List.mem_cons.1 hx with rfl | hx
  ·exact h.1
  ·exact tightL_all h.2 x hx
theorem tight_rd {A':Nat→Prop} {d:D} (h:Rd w A v d):d.tight=true→Rd w A' v d:=by
 induction h with
 | int h=>exact fun _=>.int h
 | bool=>exact fun _=>.bool
 | str h=>exact fun _=>.str h
 | nilp=>exact fun _=>.nilp
 | nils=>exact fun _=>.nils
 | dead=>exact fun _=>.dead
 | agg hs _ ih=>exact fun ht=>.agg hs fun j x hx=>ih j x hx (tightL_all ht x (List.mem_of_getElem? hx))
 | tup hs _ ih=>exact fun ht=>.tup hs fun j x hx=>ih j x hx (tightL_all ht x (List.mem_of_getElem? hx))
 | fn hs _ ih=>exact fun ht=>.fn hs fun j x hx=>ih j x hx (tightL_all ht x (List.mem_of_getElem? hx))
 | _=>exact fun ht=>by simp [D.tight] at ht
theorem tight_pl {A':Nat→Prop} {d:D} (h:Pl w A R v d):d.tight=true→Pl w A' R v d:=by
 induction h with
 | rd h=>exact fun ht=>.rd (tight_rd h ht)
 | ref h=>exact fun _=>.ref h
 | agg hs _ ih=>exact fun ht=>.agg hs fun j x hx=>ih j x hx (tightL_all ht x (List.mem_of_getElem? hx))
 | tup hs _ ih=>exact fun ht=>.tup hs fun j x hx=>ih j x hx (tightL_all ht x (List.mem_of_getElem? hx))
 | fn hs _ ih=>exact fun ht=>.fn hs fun j x hx=>ih j x hx (tightL_all ht x (List.mem_of_getElem? hx))
theorem tight_cell {A':Nat→Prop} {d:D} (h:CellOk w A R v F d) (ht:d.tightC=true):CellOk w A' R v F d:=by
 cases d
 case o x=>exact novw_own h ht
 all_goals first | exact h.elim | exact tight_pl h ht
theorem tightCL_all:∀ {l:List D},tightCL l=true→∀ x∈l,x.tightC=true
 | [],_,x,hx=>by cases hx
 | y::r,h,x,hx=>by
  simp only [tightCL,Bool.and_eq_true] at h
  rcases List.mem_cons.1 hx with rfl | hx
  ·exact h.1
  ·exact tightCL_all h.2 x hx
theorem tight_cells {d:D} (h:d.tight=true) (hd:∀ x∈d.cells,x.tight=true→True):∀ x∈d.cells,x.tight=true:=by
 intro x hx
 cases d<;>simp only [D.cells,List.mem_singleton] at hx<;>first | (subst hx;exact h) | exact tightL_all h x hx
theorem tight_cellAt {l:List D} {sz j:Nat} {c:D} (h:tightL l=true) (hc:cellAt l sz j=some c):c.tight=true:=by
 unfold cellAt at hc
 cases hL:l[j / sz]? with
 | none=>simp [hL] at hc
 | some d =>
  rw [hL,Option.bind_some] at hc
  exact tight_cells (tightL_all h d (List.mem_of_getElem? hL)) (fun _ _ _=>trivial) c (List.mem_of_getElem? hc)
theorem tight_cont {A':Nat→Prop} {d:D} (h:ContOk w A R v F d) (ht:d.tightX=true):ContOk w A' R v F d:=by
 cases d
 case o x=>exact novw_own h ht
 case box l =>
  obtain ⟨h0,b,cs,e,Fs,h1,h2,h3,h4,h5,h6,h7⟩:=h
  exact ⟨h0,b,cs,e,Fs,h1,h2,h3,fun j c hj=>tight_cell (h4 j c hj) (tightCL_all ht c (List.mem_of_getElem? hj)),h5,h6,h7⟩
 case row z l =>
  obtain ⟨b,sz,cs,e,h1,h2,h3,h3',h3'',h3a,h3b,h4,h5⟩:=h
  exact ⟨b,sz,cs,e,h1,h2,h3,h3',h3'',h3a,h3b,fun j c hj=>⟨tight_pl (h4 j c hj).1 (tight_cellAt ht hj),(h4 j c hj).2⟩,h5⟩
 case when g x=>cases ht
 all_goals exact tight_pl h ht
theorem tightXL_nth:∀ {l:List D},tightXL l=true→∀ k,(nth l k).tightX=true
 | [],_,k=>rfl
 | y::r,h,k=>by
  simp only [tightXL,Bool.and_eq_true] at h
  cases k with
  | zero=>exact h.1
  | succ k=>exact tightXL_nth h.2 k
end
theorem okc_ren {σ:Nat→Nat} {c:D} (h:c.okc=true):(c.ren σ).okc=true:=by
 cases c<;>first | exact h | rfl | cases h
theorem okc_cont {w:World} {A:Nat→Prop} {R:Value→D→Prop} {v:Value} {F:Nat→Prop} {c:D} (h:c.okc=true):ContOk w A R v F c↔Pl w A R v c:=by
 cases c<;>first | exact Iff.rfl | cases h
theorem okc_obj {c:D} (h:c.okc=true):c.isObj=false:=by cases c<;>first | rfl | cases h
end Go.D3
