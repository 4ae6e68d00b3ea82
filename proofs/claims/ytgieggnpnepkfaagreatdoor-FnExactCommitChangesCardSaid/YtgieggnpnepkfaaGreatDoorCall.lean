/- CALLS whose arguments are only read. Generic. -/
import Derived.Test.YtgieggnpnepkfaaGreatDoorNew
namespace Go.D3
open Go
theorem novwL_all:∀ {l:List D},novwL l=true→∀ x∈l,x.novw=true
 | [],_,x,hx=>by cases hx
 | y::r,h,x,hx=>by
  simp only [novwL,Bool.and_eq_true] at h
  rcases List.mem_cons.1 hx with rfl | hx
  ·exact h.1
  ·exact novwL_all h.2 x hx
theorem novw_cell {L:List D} {sz j:Nat} {c:D} (h:novwL L=true) (hc:cellAt L sz j=some c):c.novw=true:=by
 unfold cellAt at hc
 cases hq:L[j / sz]? with
 | none=>simp [hq] at hc
 | some d =>
  rw [hq,Option.bind_some] at hc
  have hd:=novwL_all h d (List.mem_of_getElem? hq)
  have hm:=List.mem_of_getElem? hc
  cases d<;>simp only [D.cells,List.mem_singleton] at hm<;>first | (subst hm;exact hd) | exact novwL_all hd c hm
theorem novw_own {w:World} {A A':Nat→Prop} {d:D} {v:Value} {F:Nat→Prop} (h:Own w A v d F):d.novw=true→Own w A' v d F:=by
 induction h with
 | int h=>exact fun _=>.int h
 | bool=>exact fun _=>.bool
 | str h=>exact fun _=>.str h
 | nil=>exact fun _=>.nil
 | nilp=>exact fun _=>.nilp
 | fn=>exact fun _=>.fn
 | vw h=>exact fun hn=>by simp [D.novw] at hn
 | dead=>exact fun _=>.dead
 | mp hF hb hE=>exact fun _=>.mp hF hb hE
 | nmp=>exact fun _=>.nmp
 | ifc h=>exact fun hn=>by simp [D.novw] at hn
 | nifc=>exact fun _=>.nifc
 | itr hF hb hs=>exact fun _=>.itr hF hb hs
 | slice Fs hb hroom hc hm hz hzz hsz hr hF hfs hdis ih=>exact fun hn=>.slice Fs hb hroom hc hm hz hzz hsz (fun j x hx=>ih j x hx (novw_cell hn hx)) hF hfs hdis
 | agg Fs hs hr hfs hdis ih=>exact fun hn=>.agg Fs hs (fun j x hx=>ih j x hx (novwL_all hn x (List.mem_of_getElem? hx))) hfs hdis
 | tup Fs hs hr hfs hdis ih=>exact fun hn=>.tup Fs hs (fun j x hx=>ih j x hx (novwL_all hn x (List.mem_of_getElem? hx))) hfs hdis
 | ptr Fs hb hs hr hF hfs hdis ih=>exact fun hn=>.ptr Fs hb hs (fun j x hx=>ih j x hx (novwL_all hn x (List.mem_of_getElem? hx))) hF hfs hdis
section
variable {P:Program} {o:Oper} {w:World} {A:Nat→Prop} {ct:Nat→D} {vl:Nat→Value} {a:Act} {ds:List (Option Nat)} {tr:List Nat} {rd:X→D} {ob:Nat→D}
def live (w:World) (b:Nat):Prop:=b<w.heap.size
theorem szOk_all {z:D}:∀ {l:List D},szOk z l=true→∀ x∈l,x.cells.length=z.cells.length
 | [],_,x,hx=>by cases hx
 | y::r,h,x,hx=>by
  simp only [szOk,Bool.and_eq_true,decide_eq_true_eq] at h
  rcases List.mem_cons.1 hx with rfl | hx
  ·exact h.1
  ·exact szOk_all h.2 x hx
theorem gath_noagg {n:Nat} {e e':D} (h:gath ob (n+1) e=some e') (hpe:e.pc=true):e'.isAgg=false:=by
 cases e<;>try (simp [D.pc] at hpe;done)
 case fn f caps =>
  simp only [gath,Option.bind_eq_some_iff] at h
  obtain ⟨l',_,h⟩:=h
  simp only [Option.some.injEq] at h;subst h;rfl
 all_goals simp only [gath] at h
 all_goals try (simp only [Option.some.injEq] at h;subst h;rfl)
 all_goals try (cases h;done)
 ·rw [Option.bind_eq_some_iff] at h
  obtain ⟨c,_,h⟩:=h
  split at h
  ·rw [Option.bind_eq_some_iff] at h
   obtain ⟨l',_,h⟩:=h
   split at h<;>simp only [Option.some.injEq,reduceCtorEq] at h;subst h;rfl
  ·split at h
   ·cases h
   ·rename_i hh;simp only [Option.some.injEq] at h;subst h;simpa using hh
 ·rw [Option.bind_eq_some_iff] at h
  obtain ⟨c,_,h⟩:=h
  split at h
  ·rw [Option.bind_eq_some_iff] at h
   obtain ⟨l',_,h⟩:=h
   simp only [Option.some.injEq] at h;subst h;rfl
  ·simp only [Option.some.injEq] at h;subst h;rfl
  ·cases h
theorem gath_cells {n:Nat} {e e':D} (h:gath ob n e=some e') (hl:e'.cells.length=e.cells.length) (hpc:∀ c∈e.cells,c.pc=true):∀ (j:Nat) (y:D),e'.cells[j]?=some y→∃ (c:D) (m:Nat),e.cells[j]?=some c∧gath ob m c=some y:=by
 cases n with
 | zero=>simp [gath] at h
 | succ n =>
  by_cases ha:e.isAgg=true
  ·cases e<;>simp [D.isAgg] at ha
   rename_i l
   simp only [gath,Option.bind_eq_some_iff] at h
   obtain ⟨l',h1,h2⟩:=h
   injection h2 with h2
   subst h2
   intro j y hj
   obtain ⟨x,h3,h4⟩:=(mapO_get h1).2 j y hj
   exact ⟨x,n,h3,h4⟩
  ·have ha':e.isAgg=false:=by simpa using ha
   have hec:=D.cells_one ha'
   rw [hec] at hl hpc ⊢
   have hpe:=hpc e (by simp)
   have hne:=gath_noagg h hpe
   rw [D.cells_one hne]
   intro j y hj
   cases j with
   | zero=>simp at hj;subst hj;exact ⟨e,n+1,rfl,h⟩
   | succ j=>simp at hj
theorem own_live {v:Value} {d:D} {F:Nat→Prop} (hA:∀ b,A b→live w b) (hF:∀ b,F b→live w b) (h:Own w A v d F):Rd w (live w) v d:=h.rd hA hF
theorem lk_some {k:Nat} {c:D} (h:lk ob k=some c):(ob k).isObj=true∧c=ob k:=by
 unfold lk at h
 split at h
 ·rename_i ho;simp only [Option.some.injEq] at h;exact ⟨ho,h.symm⟩
 ·cases h
theorem own_liveB {B:Nat→Prop} {v:Value} {d:D} {F:Nat→Prop} (hA:∀ b,A b→B b) (hF:∀ b,F b→B b) (h:Own w A v d F):Rd w B v d:=h.rd hA hF
theorem rd_take {B:Nat→Prop} {q:Option Addr} {m n c:Nat} {z:D} {l:List D} (h:Rd w B (.slice q m c) (.slice z l)) (hn:n≤m):Rd w B (.slice q n c) (.slice z (l.take n)):=by
 generalize hv:Value.slice q m c=v at h
 cases h with
 | nil =>
  injection hv with e1 e2 e3
  subst e1;subst e2;subst e3
  have:n=0:=by omega
  subst this
  exact .nil
 | empty hm =>
  injection hv with e1 e2 e3
  subst e1;subst e2;subst e3
  have:n=0:=by omega
  subst this
  exact .empty hm
 | slice hA hc hm hz hzz hsz vs hcells hr =>
  injection hv with e1 e2 e3
  subst e1;subst e2;subst e3
  have hl:(l.take n).length=n:=by rw [List.length_take];omega
  have hcut:∀ j x,cellAt (l.take n) _ j=some x→cellAt l _ j=some x:=fun j x hx=>by
   have:=cellAt_cut (L:=l) (h:=n) (l:=0) hz (by simpa using hx)
   simpa using this
  have:=Rd.slice (w:=w) (z:=z) (L:=l.take n) hA (by omega) hm hz hzz (fun y hy=>hsz y (List.mem_of_mem_take hy)) vs (fun j x hx=>hcells j x (hcut j x hx)) (fun j x hx=>hr j x (hcut j x hx))
  rw [hl] at this
  exact this
theorem gath_okB {B:Nat→Prop} (hA:∀ b,A b→B b) (hob:∀ j,(ct j).isObj=true→(ob j).isObj=true→ob j=ct j) (hok:∀ j,(ct j).isObj=true→(ob j).isObj=true→∃ F,(∀ b,F b→B b)∧ContOk w A (RefOk w ct vl) (vl j) F (ct j)) :
  ∀ (n:Nat) {v:Value} {d x:D},Pl w A (RefOk w ct vl) v d→gath ob n d=some x→Rd w B v x
 | 0,v,d,x,_,h=>by simp [gath] at h
 | n+1,v,d,x,hv,h=>by
  have same:∀ {v:Value} {d:D},Pl w A (RefOk w ct vl) v d→(∀ k p,d≠.sub k p)→(∀ k p,d≠.adr k p)→(∀ f c,d≠.fn f c)→(∀ l,d≠.agg l)→(∀ l,d≠.tup l)→(h6:∀ k p n,d≠.pre k p n:=by simp)→Rd w B v d :=
   fun hv h1 h2 h3 h4 h5 h6=>(pl_rd hv h1 h2 h3 h4 h5 h6).mono hA fun _ _=>rfl
  have cell:∀ {v:Value} {F:Nat→Prop} {c y:D},(∀ b,F b→B b)→CellOk w A (RefOk w ct vl) v F c→gath ob n c=some y→Rd w B v y:=by
   intro v F c y hF hc hy
   by_cases ho:∃ z,c=.o z
   ·obtain ⟨z,rfl⟩:=ho
    cases n with
    | zero=>simp [gath] at hy
    | succ m =>
     simp only [gath,Option.some.injEq] at hy
     subst hy
     exact own_liveB hA hF hc
   ·have hpl:Pl w A (RefOk w ct vl) v c:=by
     cases c<;>first | exact hc | exact hc.elim | exact absurd ⟨_,rfl⟩ ho
    exact gath_okB hA hob hok n hpl hy
  cases d
  case pre k p m =>
   simp only [gath] at h
   rw [Option.bind_eq_some_iff] at h
   obtain ⟨c0,hc0,h⟩:=h
   obtain ⟨hobj,hc1⟩:=lk_some hc0
   cases hv with
   | rd hv=>cases hv
   | ref hv =>
    obtain ⟨q,l0,cp,⟨g1,g2⟩,g3,rfl⟩:=hv
    have hcto:(ct k).isObj=true:=hasC_obj g1.1
    obtain ⟨F,hF,hc⟩:=hok k hcto hobj
    rw [hc1,hob k hcto hobj] at h
    clear hc0 hc1
    have hr:RefOk w ct vl (.slice q l0 cp) (.sub k p):=⟨g1,g2,.inl ⟨_,_,_,rfl⟩⟩
    rcases sub_ok hc hr with ⟨z,l,hck,rfl,hvl⟩ | ⟨F',hown,hFF,_,hnr⟩
    ·rw [hck] at h;cases h
    ·have hd:∃ z l,(ct k).dat p=.slice z l∧x=.slice z (l.take m):=by
      split at h
      ·rename_i z l hck;exact absurd hck (hnr z l)
      ·split at h
       ·rename_i z l hd
        injection h with h
        exact ⟨z,l,hd,h.symm⟩
       ·cases h
     obtain ⟨z,l,hd,rfl⟩:=hd
     rw [hd] at hown
     have hrd:=own_liveB hA (fun b hb=>hF b (hFF b hb)) hown
     exact rd_take hrd g3
  case sub k p =>
   simp only [gath] at h
   have hr:=pl_sub hv
   rw [Option.bind_eq_some_iff] at h
   obtain ⟨c0,hc0,h⟩:=h
   obtain ⟨hobj,hc1⟩:=lk_some hc0
   have hcto:(ct k).isObj=true:=hasC_obj hr.1.1
   obtain ⟨F,hF,hc⟩:=hok k hcto hobj
   rw [hc1,hob k hcto hobj] at h
   clear hc0 hc1
   rcases sub_ok hc hr with ⟨z,l,hck,rfl,hvl⟩ | ⟨F',hown,hFF,_,hnr⟩
   ·rw [hck] at h hc
    simp only [Option.bind_eq_some_iff] at h
    obtain ⟨l',hl',h⟩:=h
    split at h
    ·rename_i hsz
     injection h with h
     subst h
     obtain ⟨b,sz,cs,e,h1,h2,h3,h4,h5,h6,h7,h8,h9⟩:=hc
     obtain ⟨h12,h13⟩:=mapO_get hl'
     have hszs:=szOk_all hsz
     rw [hvl,h1,← h12]
     have key:∀ j y,cellAt l' sz j=some y→j<cs.size∧Rd w B (cs.getD j undef) y:=by
      intro j y hj
      have hlt:=cellAt_lt h5 hj
      rw [h12] at hlt
      refine ⟨by omega,?_⟩
      unfold cellAt at hj
      cases hq:l'[j / sz]? with
      | none=>simp [hq] at hj
      | some e' =>
       rw [hq,Option.bind_some] at hj
       obtain ⟨e0,he0,hge⟩:=h13 _ _ hq
       have hcell:∀ (i:Nat) (c:D),e0.cells[i]?=some c→i<sz→cellAt l sz (j / sz*sz+i)=some c:=by
        intro i c hi his
        unfold cellAt
        have e1:(j / sz*sz+i) / sz=j / sz:=by rw [Nat.mul_comm,Nat.mul_add_div h5,Nat.div_eq_of_lt his];rfl
        have e2:(j / sz*sz+i) % sz=i:=by rw [Nat.mul_comm,Nat.mul_add_mod,Nat.mod_eq_of_lt his]
        rw [e1,e2,he0];exact hi
       have hl0:=h7 e0 (List.mem_of_getElem? he0)
       have hpc:∀ c∈e0.cells,c.pc=true:=by
        intro c hcm
        obtain ⟨i,hi,hci⟩:=List.getElem_of_mem hcm
        exact (h8 _ _ (hcell i c (by rw [List.getElem?_eq_getElem hi,hci]) (by omega))).2
       have hmod:=Nat.mod_lt j h5
       have hdm:j / sz*sz+j % sz=j:=by rw [Nat.mul_comm];exact Nat.div_add_mod j sz
       cases n with
       | zero=>simp [gath] at hge
       | succ n =>
        by_cases ha:e0.isAgg=true
        ·cases e0<;>simp [D.isAgg] at ha
         rename_i l0
         simp only [gath,Option.bind_eq_some_iff] at hge
         obtain ⟨l1,h14,h15⟩:=hge
         injection h15 with h15
         subst h15
         obtain ⟨c,h16,h17⟩:=(mapO_get h14).2 _ _ hj
         have:=(h8 _ _ (hcell _ c h16 hmod)).1
         rw [hdm] at this
         exact gath_okB hA hob hok n this h17
        ·have ha':e0.isAgg=false:=by simpa using ha
         obtain ⟨c,m,h14,h15⟩:=gath_cells hge (by rw [hszs e' (List.mem_of_getElem? hq),h6,hl0]) hpc _ _ hj
         rw [D.cells_one ha'] at h14 hl0
         simp only [List.length_cons,List.length_nil,Nat.zero_add] at hl0
         have hj0:j % sz=0:=by omega
         rw [hj0] at h14 hj
         simp only [List.getElem?_cons_zero,Option.some.injEq] at h14
         subst h14
         have hc1:=(h8 _ _ (hcell 0 e0 (by rw [D.cells_one ha'];rfl) (by omega))).1
         rw [← hj0,hdm] at hc1
         have:=gath_okB hA hob hok (n+1) hc1 hge
         have hlen:=hszs e' (List.mem_of_getElem? hq)
         rw [h6,← hl0] at hlen
         rw [D.cells_one (gath_noagg hge (hpc e0 (by rw [D.cells_one ha'];simp)))] at hj
         simp at hj
         rw [← hj];exact this
     refine .slice (hF _ h9) (Nat.le_refl _) (by rw [h12];exact h4) h5 h6 (fun x hx=>by rw [hszs x hx,h6]) (fun j=>cs.getD j undef) (fun j y hj=>?_) (fun j y hj=>(key j y hj).2)
     rw [Nat.zero_add]
     exact cell_own h2 (key j y hj).1
    ·cases h
   ·have h':(if ((ct k).dat p).isAgg=true then none else some ((ct k).dat p))=some x:=by
     revert h
     cases hck:ct k<;>first | exact id | exact absurd hck (hnr _ _)
    split at h'
    ·cases h'
    ·injection h' with h'
     subst h'
     exact own_liveB hA (fun b hb=>hF b (hFF b hb)) hown
  case adr k p =>
   simp only [gath] at h
   have hr:=pl_adr hv
   rw [Option.bind_eq_some_iff] at h
   obtain ⟨c0,hc0,h⟩:=h
   obtain ⟨hobj,hc1⟩:=lk_some hc0
   have hcto:(ct k).isObj=true:=hasC_obj hr.1
   obtain ⟨F,hF,hc⟩:=hok k hcto hobj
   rw [hc1,hob k hcto hobj] at h
   clear hc0 hc1
   split at h
   ·rename_i l s off hck
    rw [hck] at hc
    rw [Option.bind_eq_some_iff] at h
    obtain ⟨l',hl',h⟩:=h
    injection h with h
    subst h
    obtain ⟨_,b,cs,e,Fs,h1,h2,h3,h4,h5,h6,h7⟩:=hc
    obtain ⟨_,ad,h8,h9⟩:=hr
    rw [hck,h1] at h8
    simp only [adrAt,kidA,D.un,kidAT,Option.some.injEq,Nat.zero_add] at h8
    subst h8
    rw [h9]
    obtain ⟨h12,h13⟩:=mapO_get hl'
    refine .ptr (hF b h5) (fun j=>cs.getD (off+j) undef) (fun j y hj=>?_) (fun j y hj=>?_)
    ·rw [List.getElem?_drop] at hj
     have:=(List.getElem?_eq_some_iff.1 hj).1
     exact cell_own h2 (by omega)
    ·rw [List.getElem?_drop] at hj
     obtain ⟨c,hc1,hc2⟩:=h13 _ _ hj
     exact cell (fun b hb=>hF b (h6 _ b hb).2) (h4 _ _ hc1) hc2
   ·rename_i l s off hck
    rw [hck] at hc
    injection h with h
    subst h
    obtain ⟨b,cs,e,Fs,h1,h2,h3,h4,h5,h6⟩:∃ (b:Nat) (cs:Array Value) (e:TypeId) (Fs:Nat→Nat→Prop),vl k=.pointer (some ⟨b,0,none⟩)∧w.heap[b]?=some (.cells cs e (0,0))∧cs.size=l.length∧(∀ j x,l[j]?=some x→Own w A (cs.getD j undef) x (Fs j))∧F b∧∀ j c,Fs j c→F c:=by
     have hc:Own w A (vl k) (.ptr l) F:=hc
     generalize vl k=u at hc
     cases hc with
     | ptr Fs hb hs hr hF hfs _=>exact ⟨_,_,_,Fs,rfl,hb,hs,hr,hF,fun j c h=>(hfs j c h).2⟩
    obtain ⟨_,ad,h8,h9⟩:=hr
    rw [hck,h1] at h8
    simp only [adrAt,kidA,D.un,kidAT,Option.some.injEq,Nat.zero_add] at h8
    subst h8
    rw [h9]
    refine .ptr (hF b h5) (fun j=>cs.getD (off+j) undef) (fun j y hj=>?_) (fun j y hj=>?_)
    ·rw [List.getElem?_drop] at hj
     have:=(List.getElem?_eq_some_iff.1 hj).1
     exact cell_own h2 (by omega)
    ·rw [List.getElem?_drop] at hj
     exact own_liveB hA (fun b hb=>hF b (h6 _ b hb)) (h4 _ _ hj)
   ·cases h
  case agg l =>
   simp only [gath,Option.bind_eq_some_iff] at h
   obtain ⟨l',hl',h⟩:=h
   injection h with h
   subst h
   obtain ⟨cs,rfl,h1,h2⟩:=pl_agg hv
   obtain ⟨h3,h4⟩:=mapO_get hl'
   exact .agg (by rw [h1,h3]) fun j y hj=>by
    obtain ⟨c,hc1,hc2⟩:=h4 j y hj
    exact gath_okB hA hob hok n (h2 j c hc1) hc2
  case fn f caps =>
   simp only [gath,Option.bind_eq_some_iff] at h
   obtain ⟨l',hl',h⟩:=h
   injection h with h
   subst h
   obtain ⟨cs,rfl,h1,h2⟩:=pl_fn hv
   obtain ⟨h3,h4⟩:=mapO_get hl'
   exact .fn (by rw [h1,h3]) fun j y hj=>by
    obtain ⟨c,hc1,hc2⟩:=h4 j y hj
    exact gath_okB hA hob hok n (h2 j c hc1) hc2
  case nils z =>
   simp only [gath,Option.some.injEq] at h
   subst h
   exact (plain_rd hv rfl).mono hA fun _ _=>rfl
  case o y =>
   simp only [gath,Option.some.injEq] at h
   subst h
   have:=pl_rd hv (by simp) (by simp) (by simp) (by simp) (by simp)
   cases this with
   | o h=>exact h.mono hA fun _ _=>rfl
  all_goals simp only [gath,Option.some.injEq,reduceCtorEq] at h
  all_goals
   subst h
   exact same hv (by simp) (by simp) (by simp) (by simp) (by simp)
theorem gath_ok (hA:∀ b,A b→live w b) (hob:∀ j,(ct j).isObj=true→ob j=ct j) (hok:∀ j,∃ F,(∀ b,F b→live w b)∧ContOk w A (RefOk w ct vl) (vl j) F (ct j)) (n:Nat) {v:Value} {d x:D} (h:Pl w A (RefOk w ct vl) v d) (hg:gath ob n d=some x):Rd w (live w) v x :=
 gath_okB hA (fun j h _=>hob j h) (fun j _ _=>hok j) n h hg
theorem noRef_ref {v:Value} {d:D} (h:RefOk w ct vl v d) (hd:d.refs noRef):False:=by
 cases d<;>first | exact h.elim | exact hd.elim
theorem bare_rd {v:Value} {d:D} (h:Pl w A (RefOk w ct vl) v d) (hd:d.refs noRef):Rd w A v d:=by
 induction h with
 | rd h=>exact h
 | ref h=>exact (noRef_ref h hd).elim
 | agg hs _ ih=>exact .agg hs fun j x hx=>ih j x hx (refsL_iff.1 hd x (List.mem_of_getElem? hx))
 | tup hs _ ih=>exact .tup hs fun j x hx=>ih j x hx (refsL_iff.1 hd x (List.mem_of_getElem? hx))
 | fn hs _ ih=>exact .fn hs fun j x hx=>ih j x hx (refsL_iff.1 hd x (List.mem_of_getElem? hx))
theorem gath_plain:∀ (n:Nat) {v:Value} {d x:D},Pl w A (RefOk w ct vl) v d→d.refs noRef→gath ob n d=some x→Rd w A v x
 | 0,v,d,x,_,_,h=>by simp [gath] at h
 | n+1,v,d,x,hv,hd,h=>by
  cases d
  case sub k p=>exact hd.elim
  case adr k p=>exact hd.elim
  case pre k p m=>exact hd.elim
  case agg l =>
   simp only [gath,Option.bind_eq_some_iff] at h
   obtain ⟨l',hl',h⟩:=h
   injection h with h
   subst h
   obtain ⟨cs,rfl,h1,h2⟩:=pl_agg hv
   obtain ⟨h3,h4⟩:=mapO_get hl'
   exact .agg (by rw [h1,h3]) fun j y hj=>by
    obtain ⟨c,hc1,hc2⟩:=h4 j y hj
    exact gath_plain n (h2 j c hc1) (refsL_iff.1 hd c (List.mem_of_getElem? hc1)) hc2
  case fn f caps =>
   simp only [gath,Option.bind_eq_some_iff] at h
   obtain ⟨l',hl',h⟩:=h
   injection h with h
   subst h
   obtain ⟨cs,rfl,h1,h2⟩:=pl_fn hv
   obtain ⟨h3,h4⟩:=mapO_get hl'
   exact .fn (by rw [h1,h3]) fun j y hj=>by
    obtain ⟨c,hc1,hc2⟩:=h4 j y hj
    exact gath_plain n (h2 j c hc1) (refsL_iff.1 hd c (List.mem_of_getElem? hc1)) hc2
  case nils z =>
   simp only [gath,Option.some.injEq] at h
   subst h
   exact plain_rd hv rfl
  case o y =>
   simp only [gath,Option.some.injEq] at h
   subst h
   have:=pl_rd hv (by simp) (by simp) (by simp) (by simp) (by simp)
   cases this with
   | o h=>exact h
  all_goals simp only [gath,Option.some.injEq,reduceCtorEq] at h
  all_goals
   subst h
   exact pl_rd hv (by simp) (by simp) (by simp) (by simp) (by simp)
theorem args_ok {A':Nat→Prop}:∀ {xs:List Operand} {ys:List X} {dts:List D},isXs ds tr xs ys=true→(∀ y,y∈ys→∀ x,isX ds tr x y=true→PlG w A (RefOk w ct vl) (a.eval x) (rd y)) →
  (∀ y,y∈ys→∀ {v:Value} {x:D},Pl w A (RefOk w ct vl) v (rd y).core→gath ob 4 (rd y).core=some x→Rd w A' v x) →
  gathL ob rd ys=some dts→gates rd ys=true→xs.length=dts.length∧∀ (j:Nat) (d:D),dts[j]?=some d→Rd w A' ((xs.map a.eval).getD j undef) d
 | [],[],dts,_,_,_,hd,_=>by simp [gathL] at hd;subst hd;simp
 | [],_::_,_,h,_,_,_,_=>by simp [isXs] at h
 | _::_,[],_,h,_,_,_,_=>by simp [isXs] at h
 | x::xs,y::ys,dts,hx,hr,hg,hd,hgt=>by
  simp only [isXs,Bool.and_eq_true] at hx
  simp only [gathL,Option.bind_eq_some_iff] at hd
  obtain ⟨d0,hd0,l,hl,hd⟩:=hd
  injection hd with hd
  subst hd
  simp only [gates,Bool.and_eq_true] at hgt
  obtain ⟨h1,h2⟩:=args_ok hx.2 (fun y hy=>hr y (by simp [hy])) (fun y hy=>hg y (by simp [hy])) hl hgt.2
  have h3:=hg y (by simp) ((hr y (by simp) x hx.1).1 hgt.1) hd0
  refine ⟨by simp [h1],fun j d hj=>?_⟩
  cases j with
  | zero=>simp at hj;subst hj;simpa using h3
  | succ j=>simpa using h2 j d (by simpa using hj)
theorem call_run {f:FuncId} {xs:List Operand} {ts:Array TypeId} (ho:o.op=.call { callee:=.value (.func f),args:=xs.toArray,argTypes:=ts }) (hb:bodyF P f=true) :
  (execOp a.eval o).run P w=.ok (.enter f (xs.map a.eval).toArray) w:=by
 unfold bodyF at hb
 cases hf:P.funcs[f]? with
 | none=>simp [hf] at hb
 | some fn =>
  simp [hf] at hb
  obtain ⟨h1,h2⟩:=hb
  cases hbody:fn.body with
  | none=>simp [hbody] at h1
  | some c=>simp [execOp,ho,resolve,Act.eval,Deferred.ofValue,invoke,callFunc,hf,h2,hbody]
theorem contOf_ok {R:Value→D→Prop} {v:Value} {d:D} {F:Nat→Prop} (h:Own w A v d F):ContOk w A R v F (contOf d)∧((contOf d).isObj=false→ContOk w A R v (fun _=>False) (contOf d)):=by
 have rd:∀ {d:D},Own w A v d F→(∀ {A':Nat→Prop} {F':Nat→Prop},Own w A v d F')→Rd w A v d:=fun _ h=>(h (A':=A) (F':=fun _=>False)).rd (fun _ h=>h) fun _ h=>h.elim
 cases h with
 | int h=>exact ⟨.rd (.int h),fun _=>.rd (.int h)⟩
 | bool=>exact ⟨.rd .bool,fun _=>.rd .bool⟩
 | str h=>exact ⟨.rd (.str h),fun _=>.rd (.str h)⟩
 | nil=>exact ⟨.nil,fun h=>by cases h⟩
 | nilp=>exact ⟨.rd .nilp,fun _=>.rd .nilp⟩
 | fn=>exact ⟨.rd (.fn rfl (fun j x hx=>by simp at hx)),fun _=>.rd (.fn rfl (fun j x hx=>by simp at hx))⟩
 | @vw v d F h =>
  cases d
  case slice z l=>exact ⟨Pl.rd h,fun _=>Pl.rd h⟩
  case ptr l=>exact ⟨Pl.rd h,fun _=>Pl.rd h⟩
  case agg l=>exact ⟨Pl.rd h,fun _=>Pl.rd h⟩
  case fn f l=>exact ⟨Pl.rd h,fun _=>Pl.rd h⟩
  case mp ks vs=>exact ⟨Pl.rd h,fun _=>Pl.rd h⟩
  case tup l=>exact ⟨Pl.rd h,fun _=>Pl.rd h⟩
  all_goals exact ⟨Pl.dead,fun _=>Pl.dead⟩
 | dead=>exact ⟨Pl.dead,fun _=>Pl.dead⟩
 | mp hF hb hE=>exact ⟨.mp hF hb hE,fun h=>by cases h⟩
 | nmp=>exact ⟨.rd .nmp,fun _=>.rd .nmp⟩
 | ifc h=>exact ⟨Pl.rd (.ifc h),fun _=>Pl.rd (.ifc h)⟩
 | nifc=>exact ⟨.rd .nifc,fun _=>.rd .nifc⟩
 | itr hF hb hs=>exact ⟨.itr hF hb hs,fun h=>by cases h⟩
 | slice Fs hb hroom hc hm hz hzz hsz hr hF hfs hdis=>exact ⟨.slice Fs hb hroom hc hm hz hzz hsz hr hF hfs hdis,fun h=>by cases h⟩
 | agg Fs hs hr hfs hdis=>exact ⟨.agg Fs hs hr hfs hdis,fun h=>by cases h⟩
 | tup Fs hs hr hfs hdis=>exact ⟨.tup Fs hs hr hfs hdis,fun h=>by cases h⟩
 | ptr Fs hb hs hr hF hfs hdis=>exact ⟨.ptr Fs hb hs hr hF hfs hdis,fun h=>by cases h⟩
theorem call_sound {cx:Ctx} {fp:Nat→Nat→Prop} {G:Nat→Prop} {Q:Exit→Act→World→Prop} (h:Hp cx ct vl fp G w) {f:FuncId} {xs:List X} (hk:isK P ds tr o (.call f xs)=true)
  (hx:∀ y,y∈xs→∀ x,isX ds tr x y=true→PlG w (stab cx fp G w) (RefOk w ct vl) (a.eval x) (rd y)) (hob:∀ j,(ct j).isObj=true→ob j=ct j)
  {dts:List D} (hd:gathL ob rd xs=some dts) (hgt:gates rd xs=true) {res:D} (hR:Ret P f (dts.map .v) res) (hn:res.novw=true∨plainL rd xs) (g:Option Bool) (hg:g≠some false) {cr:D} (hcr:callC g res cr) {K:Act→World→Prop}
  (hK:∀ (v:Value) (w':World) (F:Nat→Prop),Ext w w'→(∀ b,F b→w.heap.size≤b∧b<w'.heap.size)→ContOk w' (newA (stab cx fp G w) w w' F) (RefOk w ct vl) v F cr→(cr.isObj=false→∀ b,¬ F b)→K (a.put o.dst v) w') :
  o.wp P a w K Q:=by
 simp only [isK] at hk
 split at hk<;>try (cases hk;done)
 rename_i f' as hop
 obtain ⟨ts,ho⟩:=opCall_s hop
 simp only [Bool.and_eq_true,beq_iff_eq] at hk
 obtain ⟨⟨rfl,hk1⟩,hk2⟩:=hk
 have hlive:∀ b,stab cx fp G w b→live w b:=fun b hb=>hb.1.1
 have hok:∀ j,∃ F,(∀ b,F b→live w b)∧ContOk w (stab cx fp G w) (RefOk w ct vl) (vl j) F (ct j):=fun j=>⟨fp j,fun b hb=>(h.lt j b hb).1,h.ok j⟩
 obtain ⟨A',hAg,hA',hAr,hAs⟩:∃ A':Nat→Prop,GOk w A'∧(∀ b,A' b→live w b)∧((as.length=dts.length∧∀ (j:Nat) (d:D),dts[j]?=some d→Rd w A' ((as.map a.eval).getD j undef) d))∧(res.novw=true∨∀ b,A' b→stab cx fp G w b):=by
  rcases hn with hn | hn
  ·exact ⟨live w,h.gl.mono hlive (fun _ _=>rfl),fun _ h=>h,args_ok hk1 hx (fun y _ v x hv hg=>gath_ok hlive hob hok 4 hv hg) hd hgt,.inl hn⟩
  ·have hpl:∀ y,y∈xs→(rd y).core.refs noRef:=by
    clear hd hgt hx hk1
    induction xs with
    | nil=>intro y hy;cases hy
    | cons z r ih =>
     intro y hy
     rcases List.mem_cons.1 hy with rfl | hy
     ·exact hn.1
     ·exact ih hn.2 y hy
   exact ⟨stab cx fp G w,h.gl,hlive,args_ok hk1 hx (fun y hy v x hv hg=>gath_plain 4 hv (hpl y hy) hg) hd hgt,.inr fun _ h=>h⟩
 unfold Oper.wp
 rw [call_run ho hk2,Oper.upon_enter]
 refine (hR w A' _ (fun _ _=>False) hAg hA' (by simp [hAr.1]) (fun j x hj=>?_) (fun _ _ _ _ h=>h.elim) (fun _ _ h=>h.elim)).mono ?_
 ·rw [List.getElem?_map,Option.map_eq_some_iff] at hj
  obtain ⟨d,hj,rfl⟩:=hj
  refine ⟨?_,fun _ h=>h⟩
  have:=hAr.2 j d hj
  simpa using this
 ·rintro e w' ⟨v,F,Fs',rfl,hsz,hown,hpost,hF,hFs',_,hsame,hos,htape,hout⟩
  have hFs0:∀ j b,¬ Fs' j b:=by
   intro j b hb
   have hj:=(hFs' j b hb).2.2
   rw [List.length_map] at hj
   exact hpost j (.v dts[j]) (by rw [List.getElem?_map,List.getElem?_eq_getElem hj];rfl) b hb
  have hext:Ext w w':=⟨hsz,fun b hb=>hsame b hb (fun _ h=>h),hos,htape,hout⟩
  have hFn:∀ b,F b→w.heap.size≤b∧b<w'.heap.size:=fun b hb=>⟨(hF b hb).2.1.resolve_right fun ⟨_,h⟩=>h,(hF b hb).1⟩
  have hown':Own w' (newA (stab cx fp G w) w w' F) v res F:=by
   rcases hAs with hn | hn
   ·exact novw_own hown hn
   ·exact hown.mono (fun b hb=>hb.imp (hn b) fun hh=>⟨hh.1,hh.2.1,hh.2.2.1⟩) (fun _ _=>rfl) (fun _ _=>rfl) fun _ h=>h
  cases g with
  | none =>
   rcases hcr with rfl | rfl
   ·obtain ⟨h1,h2⟩:=contOf_ok (R:=RefOk w ct vl) hown'
    by_cases ho:(contOf res).isObj=true
    ·exact hK v w' F hext hFn h1 (fun hh=>by rw [ho] at hh;cases hh)
    ·have ho':(contOf res).isObj=false:=by simpa using ho
     refine hK v w' (fun _=>False) hext (fun _ h=>h.elim) ?_ (fun _ _ h=>h)
     exact (h2 ho').mono (Q:=fun _=>True) (fun b hb=>hb.imp id fun hh=>⟨hh.1,hh.2.1,fun h=>h⟩) (fun _ _=>rfl) (fun _ _=>rfl) (fun _ h=>h) (refs_all (fun _=>trivial) _) fun v d _ hr=>hr
   ·have hrd:Rd w' (newA (stab cx fp G w) w w' fun _=>False) v res :=
     hown'.rd (fun b hb=>hb.imp id fun hh=>⟨hh.1,hh.2.1,fun h=>h⟩) fun b hb=>.inr ⟨(hFn b hb).1,(hFn b hb).2,fun h=>h⟩
    have ho':(contOf (.vw res)).isObj=false:=by cases res<;>rfl
    exact hK v w' (fun _=>False) hext (fun _ h=>h.elim) ((contOf_ok (R:=RefOk w ct vl) (Own.vw (F:=fun _=>False) hrd)).2 ho') (fun _ _ h=>h)
  | some b =>
   subst hcr
   refine hK v w' (fun _=>False) hext (fun _ h=>h.elim) ⟨fun _=>.rd ?_,fun hh=>?_⟩ (fun _ _ h=>h)
   ·exact hown'.rd (fun b hb=>hb.imp id fun hh=>⟨hh.1,hh.2.1,fun h=>h⟩) fun b hb=>.inr ⟨(hFn b hb).1,(hFn b hb).2,fun h=>h⟩
   ·subst hh;exact absurd rfl hg
end
end Go.D3
