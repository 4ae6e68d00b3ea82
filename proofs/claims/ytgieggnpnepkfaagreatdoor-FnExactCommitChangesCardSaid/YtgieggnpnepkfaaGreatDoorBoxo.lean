/- A NEW STRUCT TAKES WHAT ITS CELLS REFER TO. Generic. -/
import Derived.Test.YtgieggnpnepkfaaGreatDoorMup
namespace Go.D3
open Go
section
variable {P:Program} {o:Oper} {cx:Ctx} {vl:Nat→Value} {fp:Nat→Nat→Prop} {G:Nat→Prop} {w:World} {a:Act}
theorem takeL_sound:∀ (l done:List D) {K:List D→St→Prop} {st:St} {fp:Nat→Nat→Prop} {G:Nat→Prop} {vs:Nat→Value} {Fs:Nat→Nat→Prop},takeL done l K st→Hp cx st.cont vl fp G w→st.wf →
  (∀ (j:Nat) (c:D),done[j]?=some c→CellOk w (stab cx fp G w) (RefOk w st.cont vl) (vs j) (Fs j) c)→(∀ j b,Fs j b→G b∧j<done.length)→(∀ i j b,i≠j→Fs i b→¬ Fs j b) →
  (∀ (j:Nat) (c:D),l[j]?=some c→Pl w (stab cx fp G w) (RefOk w st.cont vl) (vs (done.length+j)) c) →
  ∃ (l':List D) (st':St) (fp':Nat→Nat→Prop) (G':Nat→Prop) (Fs':Nat→Nat→Prop),K l' st'∧Hp cx st'.cont vl fp' G' w∧st'.wf∧st'.n=st.n∧(∀ i,st.cont i=.dead→st'.cont i=.dead)∧l'.length=done.length+l.length ∧
   (∀ (j:Nat) (c:D),l'[j]?=some c→CellOk w (stab cx fp' G' w) (RefOk w st'.cont vl) (vs j) (Fs' j) c)∧(∀ j b,Fs' j b→G' b)∧(∀ i j b,i≠j→Fs' i b→¬ Fs' j b)
 | [],done,K,st,fp,G,vs,Fs,hK,h,hw,hc,hF,hd,_=>⟨done,st,fp,G,Fs,hK,h,hw,rfl,fun _ h=>h,by simp,hc,fun j b hb=>(hF j b hb).1,hd⟩
 | x::r,done,K,st,fp,G,vs,Fs,hK,h,hw,hc,hF,hd,hl=>by
  have hx:=hl 0 x rfl
  rw [Nat.add_zero] at hx
  have hF0:∀ b,¬ Fs done.length b:=fun b hb=>by have:=(hF _ b hb).2;omega
  by_cases hsub:∃ k p,x=.sub k p
  ·obtain ⟨k,p,rfl⟩:=hsub
   simp only [takeL] at hK
   obtain ⟨hsafe,hK⟩:=hK
   obtain ⟨y,st1,fp1,G1,F1,h1,h2,h3,h4⟩:=take_sound hK h hw (pl_sub hx)
   have hone:(vs done.length).oneCell'=true:=by obtain ⟨_,_,⟨q,n,c,e⟩ | ⟨r,e⟩⟩:=pl_sub hx<;>rw [e]<;>rfl
   obtain ⟨hcell,-⟩:=contOf_cell (R:=RefOk w st1.cont vl) h3 hone
   have hk:∀ c,c∈done++r→c.refs fun q=>keepR w w st.cont st1.cont vl vl q:=fun c hcm=>refs_mono (fun q hq=>h4 q (.inl hq)) (refsL_iff.1 hsafe c hcm)
   obtain ⟨l',st',fp',G',Fs',k1,k2,k3,k4,k5,k6,k7,k8,k9⟩:=takeL_sound r (done++[contOf y]) (vs:=vs) (Fs:=fun j b=>if j=done.length then F1 b else Fs j b) h1 h2.hp h2.wf (fun j c hj=>by
     by_cases hjl:j<done.length
     ·rw [List.getElem?_append_left hjl] at hj
      have:=(hc j c hj).mono (Q:=fun q=>keepR w w st.cont st1.cont vl vl q) (F':=Fs j) h2.hst (fun _ _=>rfl) (fun _ _=>rfl) (fun _ h=>h) (hk c (by simp [List.mem_of_getElem? hj])) fun v d hq hr=>hr.keep hq
      exact this.mono (Q:=fun _=>True) (fun _ h=>h) (fun _ _=>rfl) (fun _ _=>rfl) (fun b hb=>by rw [if_neg (by omega)];exact hb) (refs_all (fun _=>trivial) _) fun _ _ _ h=>h
     ·rw [List.getElem?_append_right (by omega)] at hj
      have:j=done.length:=by
       have:=(List.getElem?_eq_some_iff.1 hj).1
       simp at this;omega
      subst this
      simp at hj
      subst hj
      exact hcell.mono (Q:=fun _=>True) (fun _ h=>h) (fun _ _=>rfl) (fun _ _=>rfl) (fun b hb=>by rw [if_pos rfl];exact hb) (refs_all (fun _=>trivial) _) fun _ _ _ h=>h)
    (fun j b hb=>by
      split at hb
      ·rename_i hj;exact ⟨(h2.hF b hb).1,by simp [hj]⟩
      ·have:=hF j b hb;exact ⟨h2.hG b this.1,by simp;omega⟩)
    (fun i j b hij hi hj=>by
      split at hi<;>split at hj
      ·omega
      ·exact (h2.hF b hi).2 (hF j b hj).1
      ·exact (h2.hF b hj).2 (hF i b hi).1
      ·exact hd i j b hij hi hj)
    (fun j c hj=>by
      have:=hl (j+1) c (by simpa using hj)
      rw [show done.length+(j+1)=(done++[contOf y]).length+j by simp;omega] at this
      exact this.keep h2.hst (fun _ _=>rfl) (hk c (by simp [List.mem_of_getElem? hj])))
   exact ⟨l',st',fp',G',Fs',k1,k2,k3,k4.trans h2.n,fun i hi=>k5 i (h2.dd i hi),by simp at k6 ⊢;omega,k7,k8,k9⟩
  ·have hK':x.pc=true∧takeL (done++[x]) r K st:=by
    cases x<;>first | exact hK | exact absurd ⟨_,_,rfl⟩ hsub
   obtain ⟨l',st',fp',G',Fs',k1,k2,k3,k4,k5,k6,k7,k8,k9⟩:=takeL_sound r (done++[x]) (vs:=vs) (Fs:=Fs) hK'.2 h hw (fun j c hj=>by
     by_cases hjl:j<done.length
     ·rw [List.getElem?_append_left hjl] at hj;exact hc j c hj
     ·rw [List.getElem?_append_right (by omega)] at hj
      have:j=done.length:=by
       have:=(List.getElem?_eq_some_iff.1 hj).1
       simp at this;omega
      subst this
      simp at hj
      subst hj
      exact cell_of_pl hx hK'.1)
    (fun j b hb=>by have:=hF j b hb;exact ⟨this.1,by simp;omega⟩) hd
    (fun j c hj=>by
      have:=hl (j+1) c (by simpa using hj)
      rwa [show done.length+(j+1)=(done++[x]).length+j by simp;omega] at this)
   exact ⟨l',st',fp',G',Fs',k1,k2,k3,k4,k5,by simp at k6 ⊢;omega,k7,k8,k9⟩
theorem boxo_hp {n:Nat} {x:D} {K:St→Prop} {st:St} (hK:boxoVC n x K st) (h:Hp cx st.cont vl fp G w) (hw:st.wf) {vx:Value} (hx:Pl w (stab cx fp G w) (RefOk w st.cont vl) vx x) (e:TypeId) :
  ∃ st',K st'∧(∃ fp' G',Hp cx st'.cont (upd vl (1000+st.n) (.pointer (some ⟨w.heap.size,0,none⟩))) fp' G' (w.alloc (.cells vx.cells e)))∧st'.wf∧st'.n=st.n+1∧∀ i,i<1000→st.cont i=.dead→st'.cont i=.dead:=by
 unfold boxoVC at hK
 cases hl:x.cellsOf with
 | none=>rw [hl] at hK;exact hK.elim
 | some l =>
 rw [hl] at hK
 obtain ⟨⟨hln,hn0⟩,hK⟩:=hK
 obtain ⟨hcs,hcell⟩:=value_cells hx hl
 obtain ⟨l',st1,fp1,G1,Fs,k1,k2,k3,k4,k5,k6,k7,k8,k9⟩:=takeL_sound l [] (vs:=fun j=>vx.cells.getD j undef) (Fs:=fun _ _=>False) hK h hw (fun j c hj=>by simp at hj) (fun _ _ h=>h.elim) (fun _ _ _ _ h=>h.elim) (fun j c hj=>by
  simp only [List.length_nil,Nat.zero_add];exact hcell j c hj)
 have g1:=k2.grow (w':=w.alloc (.cells vx.cells e)) (by simp) (fun b hb=>heap_alloc_old w _ b hb) rfl rfl rfl
 have hd:st1.cont (1000+st.n)=.dead:=St.cont_out (by rw [← k4];simp only [St.in,not_or,not_and];omega)
 have hb:BoxOk (w.alloc (.cells vx.cells e)) (stab cx fp1 (fun b=>G1 b∨(w.heap.size≤b∧b<(w.alloc (.cells vx.cells e)).heap.size)) (w.alloc (.cells vx.cells e))) (RefOk (w.alloc (.cells vx.cells e)) st1.cont vl) (.pointer (some ⟨w.heap.size,0,none⟩)) (fun b=>b=w.heap.size∨∃ j,Fs j b) l':=by
  have hlt:∀ j b,Fs j b→b<w.heap.size:=fun j b hb=>(k2.ltG b (k8 j b hb)).1
  refine ⟨by simp at k6;omega,w.heap.size,vx.cells,e,Fs,rfl,heap_alloc_new w _,by simp at k6;omega,fun j c hj=>?_,.inl rfl,fun j b hb=>⟨fun hh=>by have:=hlt j b hb;omega,.inr ⟨j,hb⟩⟩,k9⟩
  refine (k7 j c hj).mono (Q:=fun _=>True) (fun b hb=>⟨⟨by have:=hb.1.1;simp;omega,hb.1.2⟩,fun hg=>hg.elim hb.2.1 fun hh=>by have:=hb.1.1;omega,hb.2.2⟩) (fun b hb=>heap_alloc_old w _ b hb.1.1) (fun b hb=>heap_alloc_old w _ b (hlt j b hb)) (fun _ h=>h) (refs_all (fun _=>trivial) _) fun v d _ hr=>hr.keep (refs_all (fun q=>?_) _)
  cases q<;>try trivial
  case sub k p=>exact fun hp=>⟨hp,(valAt_cont (k2.ok k) hp.1 fun b hb=>heap_alloc_old w _ b (k2.lt k b hb).1).1⟩
  case adr k p=>exact fun hp=>⟨hp,(valAt_cont (k2.ok k) hp fun b hb=>heap_alloc_old w _ b (k2.lt k b hb).1).2⟩
 refine ⟨_,k1,?_,St.wf_push k3 _,by show st1.n+1=_;rw [k4],fun i hi hdd=>?_⟩
 ·rw [St.cont_push k3,k4]
  exact ⟨_,fun _=>False,g1.put (k:=1000+st.n) (c:=.box l') (F:=fun b=>b=w.heap.size∨∃ j,Fs j b) (by rw [hd];rfl) hb (fun b hb=>hb.elim (fun hh=>.inr ⟨by omega,by simp;omega⟩) fun ⟨j,hj⟩=>.inl (k8 j b hj)) (fun _ h=>h.elim) (fun _ _ h=>h) (fun hh=>by cases hh)⟩
 ·rw [St.cont_push k3,k4,upd_ne _ _ (by omega)];exact k5 i hdd
theorem fill_one {sz:Nat} {cs:Array Value} {v:Value} (hv:v.cells.size=sz) (hc:cs.size=sz):∃ cs',Instr.fill (fun j=>some (j*sz,sz)) cs [(0,v)]=some cs'∧cs'.size=sz∧∀ j,j<sz→cs'.getD j undef=v.cells.getD j undef:=by
 refine ⟨setVals cs 0 v.cells.toList,?_,by rw [setVals_size];exact hc,fun j hj=>?_⟩
 ·simp only [Instr.fill]
  have hcond:¬ ((decide (v.cells.size≠sz) || decide (0*sz+v.cells.size > cs.size))=true):=by simp;omega
  rw [if_neg hcond]
  have:=foldl_setVals v.cells.toList 0 0 cs
  simp only [Nat.add_zero] at this
  rw [← Array.foldl_toList,Array.toList_zipIdx,Nat.zero_mul,this]
 ·rw [setVals_get _ _ _ _ (by simp;omega),if_pos ⟨Nat.zero_le _,by simp;omega⟩]
  simp
theorem bldT_hp {z x:D} {K:St→Prop} {st:St} (hK:bldTVC z x K st) (h:Hp cx st.cont vl fp G w) (hw:st.wf) {vx:Value} (hx:Pl w (stab cx fp G w) (RefOk w st.cont vl) vx x) (hz : 0<z.cells.length) (e:TypeId) :
  vx.cells.size=z.cells.length∧∀ cs:Array Value,cs.size=z.cells.length→(∀ j,j<z.cells.length→cs.getD j undef=vx.cells.getD j undef) →
  ∃ st',K st'∧(∃ fp' G',Hp cx st'.cont (upd vl (1000+st.n) (.slice (some ⟨w.heap.size,0,none⟩) 1 1)) fp' G' (w.alloc (.cells cs e)))∧st'.wf∧st'.n=st.n+1∧∀ i,i<1000→st.cont i=.dead→st'.cont i=.dead:=by
 unfold bldTVC at hK
 cases hl:x.cellsOf with
 | none=>rw [hl] at hK;exact hK.elim
 | some l =>
 rw [hl] at hK
 obtain ⟨hln,hK⟩:=hK
 obtain ⟨hcs,hcell⟩:=value_cells hx hl
 refine ⟨by omega,fun cs hs hget=>?_⟩
 obtain ⟨l',st1,fp1,G1,Fs,k1,k2,k3,k4,k5,_⟩:=absL_sound (A:=stab cx fp G w) (vs:=vx.cells) l hK h hw (fun _ h=>h) hcell
 have g1:=k2.hp.grow (w':=w.alloc (.cells cs e)) (by simp) (fun b hb=>heap_alloc_old w _ b hb) rfl rfl rfl
 have hd:st1.cont (1000+st.n)=.dead:=St.cont_out (by rw [← k2.n];simp only [St.in,not_or,not_and];omega)
 have hlt:∀ j b,Fs j b→b<w.heap.size:=fun j b hb=>(k2.hp.ltG b (k2.hF b ⟨j,hb⟩).1).1
 have hl':l'.length=z.cells.length:=by omega
 have hat:∀ j c,cellAt [D.agg l'] z.cells.length j=some c→l'[j]?=some c∧j<z.cells.length:=fun j c hj=>by
  have h1:=cellAt_lt hz hj
  simp only [List.length_cons,List.length_nil,Nat.zero_add,Nat.one_mul] at h1
  unfold cellAt at hj
  rw [Nat.div_eq_of_lt h1,Nat.mod_eq_of_lt h1] at hj
  exact ⟨hj,h1⟩
 have hb:ContOk (w.alloc (.cells cs e)) (stab cx fp1 (fun b=>G1 b∨(w.heap.size≤b∧b<(w.alloc (.cells cs e)).heap.size)) (w.alloc (.cells cs e))) (RefOk (w.alloc (.cells cs e)) st1.cont vl) (.slice (some ⟨w.heap.size,0,none⟩) 1 1) (fun b=>b=w.heap.size∨∃ j,Fs j b) (.o (.slice z [.agg l'])):=by
  refine Own.slice (L:=[.agg l']) (off:=0) (cap:=1) (sz:=z.cells.length) Fs (heap_alloc_new w _) (by simp;omega) (by simp) (by simp [maxLen]) hz rfl (fun x hx=>?_) (fun j c hj=>?_) (.inl rfl) (fun j b hb=>⟨fun hh=>by have:=hlt j b hb;omega,.inr ⟨j,hb⟩⟩) k5
  ·rw [List.mem_singleton] at hx
   subst hx
   exact hl'
  ·obtain ⟨hj1,hj2⟩:=hat j c hj
   rw [Nat.zero_add,hget j hj2]
   exact (k4 j c hj1).1.mono (fun b hb=>⟨⟨by have:=hb.1.1;simp;omega,hb.1.2⟩,fun hg=>hg.elim hb.2.1 fun hh=>by have:=hb.1.1;omega,hb.2.2⟩) (fun b hb=>heap_alloc_old w _ b hb.1.1) (fun b hb=>heap_alloc_old w _ b (hlt j b hb)) (fun _ h=>h)
 refine ⟨_,k1,?_,St.wf_push k2.wf _,by show st1.n+1=_;rw [k2.n],fun i hi hdd=>?_⟩
 ·rw [St.cont_push k2.wf,k2.n]
  exact ⟨_,fun _=>False,g1.put (k:=1000+st.n) (c:=.o (.slice z [.agg l'])) (F:=fun b=>b=w.heap.size∨∃ j,Fs j b) (by rw [hd];rfl) hb (fun b hb=>hb.elim (fun hh=>.inr ⟨by omega,by simp;omega⟩) fun ⟨j,hj⟩=>.inl (k2.hF b ⟨j,hj⟩).1) (fun _ h=>h.elim) (fun _ _ h=>h) (fun hh=>by cases hh)⟩
 ·rw [St.cont_push k2.wf,k2.n,upd_ne _ _ (by omega)];exact k2.dd i hdd
end
end Go.D3
