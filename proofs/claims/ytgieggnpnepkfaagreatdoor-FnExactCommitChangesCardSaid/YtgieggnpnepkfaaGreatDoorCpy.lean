/- ELEMENTS ARE COPIED TO THE FRONT OF A SLICE. Generic. -/
import Derived.Test.YtgieggnpnepkfaaGreatDoorGcall
import Derived.Laws.CopyRow
import Derived.Laws.IdiomCopy
namespace Go.D3
open Go
section
variable {P:Program} {cx:Ctx} {vl:Nat→Value} {fp:Nat→Nat→Prop} {G:Nat→Prop} {w:World}
theorem setRow_ne (w:World) (g k:Nat) (cs:Array Value) (h:k≠g):(w.setRow g cs).heap[k]?=w.heap[k]?:=by
 simp [World.setRow,Array.getElem?_modify,Ne.symm h]
theorem setRow_size (w:World) (g:Nat) (cs:Array Value):(w.setRow g cs).heap.size=w.heap.size:=by simp [World.setRow]
theorem scal_cells {x:D} (h:x.scal=true):x.cells=[x]:=by cases x<;>first | rfl | cases h
theorem scal_own {A A':Nat→Prop} {v:Value} {x:D} {F:Nat→Prop} {w':World} (h:Own w A v x F) (hx:x.scal=true):Own w' A' v x (fun _=>False):=by
 cases h<;>first | cases hx | skip
 ·exact .int ‹_›
 ·exact .bool
 ·exact .str ‹_›
theorem cell1 {L:List D} (h:∀ e∈L,e.scal=true) (j:Nat):cellAt L 1 j=L[j]?:=by
 unfold cellAt
 rw [Nat.div_one,Nat.mod_one]
 cases hq:L[j]? with
 | none=>rfl
 | some d=>simp [scal_cells (h d (List.mem_of_getElem? hq))]
theorem own_copy {A A':Nat→Prop} {z:D} {L M:List D} {b off cap:Nat} {n:Nat} {F:Nat→Prop} (h:Own w A (.slice (some ⟨b,off,none⟩) n cap) (.slice z L) F) (hL:∀ e∈L,e.scal=true) (hM:∀ e∈M,e.scal=true) (hz1:z.cells.length=1)
  {news:List Value} (hn:news.length=min M.length L.length) (hnew:∀ j x,j<news.length→M[j]?=some x→Own w A' (news.getD j undef) x (fun _=>False)) :
  n=L.length∧F b∧∃ cs e fz,w.heap[b]?=some (.cells cs e fz)∧(fz.2≤fz.1∨cs.size≤fz.1)∧off+news.length≤cs.size ∧
   Own (w.setRow b (setVals cs off news)) A' (.slice (some ⟨b,off,none⟩) n cap) (.slice z (M.take L.length++L.drop M.length)) (fun c=>c=b):=by
 cases h with
 | @slice _ _ _ _ _ sz cs e fz _ Fs hb hroom hc hm hz hzz hsz hr hF hfs hdis =>
  have hs1:sz=1:=by omega
  subst hs1
  rw [Nat.mul_one] at hroom
  refine ⟨rfl,hF,cs,e,fz,hb,hroom.2,by omega,?_⟩
  have hlen:(M.take L.length++L.drop M.length).length=L.length:=by simp;omega
  have hscal:∀ x∈M.take L.length++L.drop M.length,x.scal=true:=fun x hx=>by
   rcases List.mem_append.1 hx with hx | hx
   ·exact hM x (List.mem_of_mem_take hx)
   ·exact hL x (List.mem_of_mem_drop hx)
  have key:=Own.slice (w:=w.setRow b (setVals cs off news)) (A:=A') (z:=z) (L:=M.take L.length++L.drop M.length) (b:=b) (off:=off) (cap:=cap) (sz:=1) (cs:=setVals cs off news) (e:=e) (F:=fun c=>c=b)
   (fun _ _=>False) (setRow_heap w b cs _ e fz hb) (by rw [setVals_size];omega) (by omega) hm (by omega) hzz (fun x hx=>by rw [scal_cells (hscal x hx)];rfl) (fun j x hx=>?_) rfl (fun _ _ h=>h.elim) (fun _ _ _ _ h=>h.elim)
  ·rw [hlen] at key;exact key
  rw [cell1 hscal] at hx
  have hjl:=(List.getElem?_eq_some_iff.1 hx).1
  rw [hlen] at hjl
  have hget:(setVals cs off news).getD (off+j) undef=if j<news.length then news.getD j undef else cs.getD (off+j) undef:=by
   rw [setVals_get _ _ _ _ (by omega)]
   by_cases hj:j<news.length
   ·rw [if_pos hj,if_pos (by omega),show off+j-off=j by omega]
   ·rw [if_neg hj,if_neg (by omega)]
  rw [hget]
  by_cases hj:j<news.length
  ·rw [if_pos hj]
   rw [List.getElem?_append_left (by simp;omega),List.getElem?_take_of_lt (by omega)] at hx
   exact scal_own (hnew j x hj hx) (hM x (List.mem_of_getElem? hx))
  ·rw [if_neg hj]
   rw [List.getElem?_append_right (by simp;omega),List.getElem?_drop] at hx
   have e1:M.length+(j-(M.take L.length).length)=j:=by simp;omega
   rw [e1] at hx
   exact scal_own (hr j x (by rw [cell1 hL];exact hx)) (hL x (List.mem_of_getElem? hx))
theorem cpy_hp {d s:D} {K:St→Prop} {st:St} (hK:@cpyVC d s ⟨K⟩ st) (h:Hp cx st.cont vl fp G w) (hw:st.wf) {vd vs:Value} (hd:Pl w (stab cx fp G w) (RefOk w st.cont vl) vd d) (hs:Pl w (stab cx fp G w) (RefOk w st.cont vl) vs s)
  {t t' ty e:TypeId} (ht:P.underlying t=some (.slice e)) (hsz:sizeT P e 1=true) :
  ∃ v w',(Builtin.copy_ #[t,t'] ty #[vd,vs]).run P w=.ok v w'∧∃ st',K st'∧(∃ fp' G',Hp cx st'.cont (upd vl (1000+st.n) v) fp' G' w')∧st'.wf∧st'.n=st.n+1∧∀ i,i<1000→st.cont i=.dead→st'.cont i=.dead:=by
 have hinfo:(P.info? e).map (·.size)=some 1:=by
  obtain ⟨i,h1,h2⟩:=sizeT_info hsz
  rw [h1];simp [h2]
 unfold cpyVC at hK
 split at hK
 case h_2=>exact hK.elim
 rename_i k q p
 obtain ⟨M,hM,hMs,hv⟩:=hK
 have hview:∃ z,Rd w (live w) vs (.slice z M):=by
  have els:∀ {d:D},Rd w (live w) vs d→d.els?=some M→∃ z,Rd w (live w) vs (.slice z M):=by
   intro d hd he
   cases d<;>simp only [D.els?,reduceCtorEq,Option.some.injEq] at he
   ·subst he;exact ⟨_,hd⟩
   ·subst he;cases hd;exact ⟨.dead,.nil⟩
  unfold srcOf at hM
  split at hM
  ·rename_i k p
   have hr:=pl_sub hs
   rw [Option.bind_eq_some_iff] at hM
   obtain ⟨c,hc,he⟩:=hM
   obtain ⟨_,rfl⟩:=lk_some hc
   rcases sub_ok (h.ok k) hr with ⟨z,l,hck,rfl,hvl⟩ | ⟨F',hown,hFF,_,_⟩
   ·rw [hck] at he;cases he
   ·exact els (own_live (fun b hb=>hb.1.1) (fun b hb=>(h.lt k b (hFF b hb)).1) hown) he
  ·rename_i hno
   exact els ((pl_rd hs (by intro k p hh;exact hno k p hh) (by rintro k p rfl;cases hM) (by rintro f c rfl;cases hM) (by rintro l rfl;cases hM) (by rintro l rfl;cases hM) (by rintro k p n rfl;cases hM)).mono (fun b hb=>hb.1.1) fun _ _=>rfl) hM
 obtain ⟨zM,hrM⟩:=hview
 have hr0:=pl_sub hd
 have hself:=fun i k s p hi=>absL_self hv (i:=i) (k:=k) (s:=s) (p:=p) hi
 obtain ⟨l',st1,fp1,G1,Fs,⟨z,L,rfl,⟨hz1,hLs⟩,hK⟩,h2,h3,h4,h5,h6⟩:=absL_sound (A:=stab cx fp G w) (vs:=#[vd]) _ hv h hw (fun _ h=>h) (fun j y hj=>by
  cases j with
  | zero=>simp at hj;subst hj;exact hd
  | succ j=>simp at hj)
 have ho:Own w (stab cx fp1 G1 w) vd (.slice z L) (Fs 0):=(h4 0 _ rfl).1
 have hlive:∀ b,Fs 0 b→b<w.heap.size:=fun b hb=>(h2.hp.ltG b (h2.hF b ⟨0,hb⟩).1).1
 have hrun:∃ w' F2,(Builtin.copy_ #[t,t'] ty #[vd,vs]).run P w=.ok (.int .i64 (min M.length L.length:Nat)) w'∧w'.heap.size=w.heap.size∧(∀ b,F2 b→Fs 0 b)∧(∀ A,Own w' A vd (.slice z (M.take L.length++L.drop M.length)) F2) ∧
   (∀ b,¬ Fs 0 b→w'.heap[b]?=w.heap[b]?)∧w'.os=w.os∧w'.tape=w.tape∧w'.output=w.output:=by
  obtain ⟨pS,cS,e2,hcS,hmS,hSb⟩:=rd_slice hrM
  obtain ⟨pD,cD,e1,hcD,hmD,hDb⟩:=own_slice ho
  by_cases h0:min M.length L.length=0
  ·have hr:=run_copy_none (P:=P) w t t' ty e pD pS L.length cD M.length cS ht hinfo h0
   have hLL:M.take L.length++L.drop M.length=L:=by
    rcases Nat.eq_zero_or_pos M.length with hm | hm
    ·have:M=[]:=List.length_eq_zero_iff.1 hm
     subst this;simp
    ·have:L=[]:=List.length_eq_zero_iff.1 (by omega)
     subst this;simp
   have hnv:novwL L=true:=by
    clear hself hv hK h2 h3 h4 h5 h6 ho hlive hLL hr e1 hcD hDb h0
    induction L with
    | nil=>rfl
    | cons a l ih =>
     have h1:=hLs a (by simp)
     simp only [novwL,ih (fun e he=>hLs e (by simp [he])),Bool.and_true]
     cases a<;>first | rfl | cases h1
   refine ⟨w,Fs 0,?_,rfl,fun _ h=>h,fun A=>?_,fun _ _=>rfl,rfl,rfl,rfl⟩
   ·rw [e1,e2,hr,h0];rfl
   ·rw [hLL]
    exact novw_own ho hnv
  obtain ⟨b,off,rfl⟩:=hDb (fun hh=>by rw [hh] at h0;simp at h0)
  obtain ⟨bS,offS,rfl,-⟩:=hSb (fun hh=>by rw [hh] at h0;simp at h0)
  obtain ⟨news,⟨hn1,hn2⟩,hn3⟩:∃ news:List Value,(news.length=M.length∧∀ j v,news[j]?=some v→w.cell? ((⟨bS,offS,none⟩:Addr).add j)=some v)∧∀ j x,M[j]?=some x→∀ A,Own w A (news.getD j undef) x (fun _=>False):=by
   rw [e2] at hrM
   generalize hml:M.length=n0 at hrM
   cases hrM with
   | empty=>simp at h0
   | @slice _ _ _ _ _ sz hA hc hm hz hzz hsz vs' hcells hr =>
    have hs1:sz=1:=by
     have hM0 : 0<M.length:=by omega
     have:=hsz M[0] (List.getElem_mem hM0)
     rw [scal_cells (hMs _ (List.getElem_mem hM0))] at this
     exact this.symm
    subst hs1
    refine ⟨(List.range M.length).map vs',⟨by simp,fun j v hj=>?_⟩,fun j x hx A=>?_⟩
    ·rw [List.getElem?_map,Option.map_eq_some_iff] at hj
     obtain ⟨i,hi,rfl⟩:=hj
     obtain ⟨hi1,hi2⟩:=List.getElem?_eq_some_iff.1 hi
     simp at hi1 hi2
     subst hi2
     rw [Addr.add_lit]
     exact hcells j M[j] (by rw [cell1 hMs,List.getElem?_eq_getElem hi1])
    ·have hj:=(List.getElem?_eq_some_iff.1 hx).1
     have e3:((List.range M.length).map vs').getD j undef=vs' j:=by simp [hj]
     rw [e3]
     have hrd:=hr j x (by rw [cell1 hMs];exact hx)
     have hxs:=hMs x (List.mem_of_getElem? hx)
     generalize vs' j=u at hrd ⊢
     cases hrd<;>first | cases hxs | skip
     ·exact .int ‹_›
     ·exact .bool
     ·exact .str ‹_›
  have hone:∀ v∈news.take (min M.length L.length),v.oneCell'=true:=fun v hv=>by
   obtain ⟨j,hj,rfl⟩:=List.getElem_of_mem (List.mem_of_mem_take hv)
   have:=hn3 j M[j] (List.getElem?_eq_getElem (by omega)) (fun _=>True)
   rw [List.getD_eq_getElem?_getD,List.getElem?_eq_getElem hj] at this
   have hxs:=hMs M[j] (List.getElem_mem (by omega))
   generalize M[j]=x at this hxs
   simp only [Option.getD_some] at this
   generalize news[j]=u at this ⊢
   cases this<;>first | rfl | cases hxs
  rw [e1] at ho
  obtain ⟨-,hFb,cs,et,fz,hb,hfz,hfit,hown⟩:=own_copy (A':=fun _=>False) (M:=M) ho hLs hMs hz1 (news:=news.take (min M.length L.length)) (by simp;omega) (fun j x hj hx=>by
   have:=hn3 j x hx (fun _=>False)
   simp only [List.length_take] at hj
   have e3:(news.take (min M.length L.length)).getD j undef=news.getD j undef:=by
    rw [List.getD_eq_getElem?_getD,List.getElem?_take_of_lt (by omega),← List.getD_eq_getElem?_getD]
   rw [e3];exact this)
  have hnl:(news.take (min M.length L.length)).length=min M.length L.length:=by rw [List.length_take,hn1];exact Nat.min_eq_left (Nat.min_le_left _ _)
  have hr:=run_copy_cells (P:=P) w t t' ty e b off L.length cD ⟨bS,offS,none⟩ M.length cS (news.take (min M.length L.length)) ht hinfo (by rw [List.length_take,hn1];exact Nat.min_eq_left (Nat.min_le_left _ _)) (fun j v hj=>hn2 j v (by
   rw [List.getElem?_take] at hj;split at hj
   ·exact hj
   ·cases hj)) (fun j hj=>by rw [cell_own hb (by omega)];rfl) (fun j hj=>by simp [World.frozen?,hb];omega) hone
  rw [setCells_row b et fz _ off cs w hb] at hr
  refine ⟨_,fun c=>c=b,by rw [e1,e2,hr];exact congrArg (fun n:Nat=>Result.ok (goInt (n:Int)) _) hnl,setRow_size _ _ _,fun c hc=>by rw [hc];exact hFb,fun A=>?_,fun c hc=>setRow_ne _ _ _ _ (by rintro rfl;exact hc hFb),rfl,rfl,rfl⟩
  rw [e1]
  exact hown.mono (fun _ h=>h.elim) (fun _ _=>rfl) (fun _ _=>rfl) fun _ h=>h
 obtain ⟨w',F2,hr,hsz',hF2,hown,hsame,hos,htape,hout⟩:=hrun
 obtain ⟨st',k1,k2,k3,k4,k5⟩:=parts_end (vs:=fun _=>vd) (Fs2:=fun j b=>j=0∧F2 b) (F1:=fun _=>False) (F2:=F2) (res:=.int .i64 (min M.length L.length:Nat)) (v:=.int .i64 (min M.length L.length:Nat)) (w':=w') h2 hK
  (fun j k' s' p' hj=>by
    cases j with
    | zero =>
     have hs:=hself 0 k' s' p' hj
     simp at hj
     obtain ⟨rfl,rfl,rfl⟩:=hj
     exact hr0.keep (h6 _ hs)
    | succ j=>simp at hj)
  (by omega) (.int (has_len (by
    obtain ⟨_,_,_,hcD,hmD,_⟩:=own_slice ho
    omega))) (fun j z hj=>by
    cases j with
    | zero=>simp at hj;subst hj;exact Own.mono (hown _) (fun _ h=>h) (fun _ _=>rfl) (fun _ _=>rfl) fun b hb=>⟨rfl,hb⟩
    | succ j=>simp at hj)
  (fun j b hb=>hb.2) (fun i j b hij hi hj=>hij (hi.1.trans hj.1.symm)) (fun b hb=>hb.elim) (fun b hb=>⟨by rw [hsz'];exact hlive b (hF2 b hb),.inr ⟨0,hF2 b hb⟩⟩) (fun b _ hn=>hsame b fun hh=>hn ⟨0,hh⟩) hos htape hout
 exact ⟨_,w',hr,st',k1,k2,k3,k4,k5⟩
end
end Go.D3
