/- APPENDING,at the level of states. Generic. -/
import Derived.Test.YtgieggnpnepkfaaGreatDoorApp
namespace Go.D3
open Go
section
variable {P:Program} {cx:Ctx} {vl:Nat→Value} {fp:Nat→Nat→Prop} {G:Nat→Prop} {w:World} {A:Nat→Prop}
theorem Hp.mut {ct:Nat→D} (h:Hp cx ct vl fp G w) {w':World} (hsz:w.heap.size≤w'.heap.size) (hw:∀ b,b<w.heap.size→¬ G b→w'.heap[b]?=w.heap[b]?)
  (hos:w'.os=w.os) (htape:w'.tape=w.tape) (hout:w'.output=w.output):Hp cx ct vl fp (fun b=>G b∨(w.heap.size≤b∧b<w'.heap.size)) w' where
 ok k:=by
  refine (h.ok k).mono (Q:=fun _=>True) (fun b hb=>⟨⟨by have:=hb.1.1;omega,hb.1.2⟩,fun hg=>hg.elim hb.2.1 (fun hh=>by have:=hb.1.1;omega),hb.2.2⟩) (fun b hb=>hw b hb.1.1 hb.2.1) (fun b hb=>hw b (h.lt k b hb).1 (h.disG k b hb)) (fun _ h=>h) (refs_all (fun _=>trivial) _) fun v d _ hr=>?_
  refine hr.keep (refs_all (fun d=>?_) _)
  cases d<;>try trivial
  case sub k p=>exact fun hp=>⟨hp,(valAt_cont (h.ok k) hp.1 fun b hb=>hw b (h.lt k b hb).1 (h.disG k b hb)).1⟩
  case adr k p=>exact fun hp=>⟨hp,(valAt_cont (h.ok k) hp fun b hb=>hw b (h.lt k b hb).1 (h.disG k b hb)).2⟩
 dis:=h.dis
 disG k b hb hg:=hg.elim (h.disG k b hb) fun hh=>by have:=(h.lt k b hb).1;omega
 emp:=h.emp
 lt k b hb:=⟨by have:=(h.lt k b hb).1;omega,(h.lt k b hb).2⟩
 ltG b hb:=hb.elim (fun hg=>⟨by have:=(h.ltG b hg).1;omega,(h.ltG b hg).2⟩) fun hh=>⟨hh.2,.inr (by have:=h.size;omega)⟩
 size:=Nat.le_trans h.size hsz
 same b hb hF:=by
  rw [hw b (by have:=h.size;omega) fun hg=>((h.ltG b hg).2).elim hF fun hh=>by omega]
  exact h.same b hb hF
 os:=hos.trans h.os
 tape:=htape.trans h.tape
 output:=hout.trans h.output
theorem push_tree {st:St} (h:Hp cx st.cont vl fp G w) (hwf:st.wf) {w':World} (hsz:w.heap.size≤w'.heap.size) (hw:∀ b,b<w.heap.size→¬ G b→w'.heap[b]?=w.heap[b]?)
  (hos:w'.os=w.os) (htape:w'.tape=w.tape) (hout:w'.output=w.output) {v:Value} {x:D} {F:Nat→Prop} (hF:∀ b,F b→b<w'.heap.size∧(G b∨w.heap.size≤b)) (ho:Own w' (stab cx fp G w) v x F) :
  ∃ fp' G',Hp cx (st.push (.o x)).cont (upd vl (1000+st.n) v) fp' G' w'∧(st.push (.o x)).wf∧(st.push (.o x)).n=st.n+1∧∀ i,i<1000→st.cont i=.dead→(st.push (.o x)).cont i=.dead:=by
 have hd:st.cont (1000+st.n)=.dead:=St.cont_out (by simp only [St.in,not_or,not_and];omega)
 have h1:=h.mut hsz hw hos htape hout
 rw [St.cont_push hwf]
 refine ⟨_,fun _=>False,h1.put (by rw [hd];rfl) (F:=F) (c:=.o x) (show Own w' _ v x F from ho.mono (fun b hb=>?_) (fun _ _=>rfl) (fun _ _=>rfl) fun _ h=>h) (fun b hb=>?_) (fun _ h=>h.elim) (fun _ _ h=>h) (fun h=>by cases h),St.wf_push hwf _,rfl,fun i hi hd=>by rw [upd_ne _ _ (by omega)];exact hd⟩
 ·exact ⟨⟨by have:=hb.1.1;omega,hb.1.2⟩,fun hg=>hg.elim hb.2.1 fun hh=>by have:=hb.1.1;omega,hb.2.2⟩
 ·obtain ⟨q1,q2⟩:=hF b hb
  exact q2.imp id fun hh=>⟨hh,q1⟩
theorem base_sound {s:D} {K:D→St→Prop} {st:St} {v:Value} (hK:baseK s K st) (h:Hp cx st.cont vl fp G w) (hw:st.wf) (hv:Pl w A (RefOk w st.cont vl) v s) :
  ∃ y st' fp' G' F,K y st'∧Tk cx w vl st fp G st' fp' G' F∧Own w (stab cx fp' G' w) v y F:=by
 unfold baseK at hK
 split at hK
 ·obtain ⟨x,st',fp',G',F,h1,h2,h3,-⟩:=take_sound hK h hw (pl_sub hv)
  exact ⟨x,st',fp',G',F,h1,h2,h3⟩
 ·have:=pl_rd hv (by simp) (by simp) (by simp) (by simp) (by simp)
  cases this
  exact ⟨_,st,fp,G,_,hK,.refl h hw,.nil⟩
 ·exact hK.elim
theorem base_slice {y:D} {v:Value} {F:Nat→Prop} (h:Own w A v y F) {m:Nat} (hl:y.len?=some m):∃ z L,y=.slice z L∧m=L.length:=by
 cases h<;>simp only [D.len?,reduceCtorEq,Option.some.injEq] at hl
 ·exact ⟨_,_,rfl,by simpa using hl.symm⟩
 ·exact ⟨_,_,rfl,hl.symm⟩
theorem own_cells {v:Value} {x:D} {F:Nat→Prop} (h:Own w A v x F) (h1:x.isAgg=false→v.oneCell'=true) :
  ∃ Gs:Nat→Nat→Prop,(∀ (off:Nat) (d:D),x.cells[off]?=some d→Own w A (v.cells.getD off undef) d (Gs off))∧(∀ off c,Gs off c→F c)∧(∀ i j c,i≠j→Gs i c→¬ Gs j c):=by
 by_cases ha:x.isAgg=true
 ·cases h with
  | agg Fs hs hr hfs hdis=>exact ⟨Fs,fun off d hd=>hr off d hd,hfs,hdis⟩
  | _=>cases ha
 ·have ha':x.isAgg=false:=by simpa using ha
  have hone:=h1 ha'
  have hvc:v.cells=#[v]:=by cases v<;>first | rfl | cases hone
  refine ⟨fun j c=>j=0∧F c,fun off d hd=>?_,fun off c hc=>hc.2,fun i j c hij hi hj=>hij (hi.1.trans hj.1.symm)⟩
  rw [D.cells_one ha'] at hd
  cases off with
  | zero =>
   simp at hd
   subst hd
   rw [hvc]
   exact h.mono (fun _ h=>h) (fun _ _=>rfl) (fun _ _=>rfl) fun c hc=>⟨rfl,hc⟩
  | succ off=>simp at hd
theorem src_view {t e:TypeId} (ht:P.underlying t=some (.slice e)) {v:Value} {z:D} {M:List D} (h:Rd w A v (.slice z M)) (hc:∀ x∈M,x.scal=true) (A':Nat→Prop) :
  ∃ news,Src P 1 t v M.length news w∧∀ j d,cellAt M 1 j=some d→Own w A' (news.getD j undef) d (fun _=>False):=by
 have hcells:∀ {x:D},x.scal=true→x.cells=[x]:=fun {x} hx=>by cases x<;>first | rfl | cases hx
 have hown:∀ {v:Value} {x:D},Rd w A v x→x.scal=true→Own w A' v x (fun _=>False)∧v.oneCell'=true:=by
  intro v x h hx
  cases h<;>first | cases hx | skip
  ·exact ⟨.int ‹_›,rfl⟩
  ·exact ⟨.bool,rfl⟩
  ·exact ⟨.str ‹_›,rfl⟩
 cases h with
 | nil=>exact ⟨[],Src.ofNil w ht 0,fun j d hd=>by simp [cellAt] at hd⟩
 | @empty _ p cap hm=>exact ⟨[],Src.ofSlice w ht p 0 cap [] (by simp) (fun j u hj=>by simp at hj) (fun u hu=>by simp at hu),fun j d hd=>by simp [cellAt] at hd⟩
 | @slice _ _ b off cap sz hA hcap hm hz hzz hsz vs hcells' hr =>
  have hcell:∀ j (hj:j<M.length),cellAt M sz j=some M[j]∧M[j].scal=true:=fun j hj=>by
   have h2:=hc M[j] (List.getElem_mem hj)
   have h1:=hcells h2
   have hs1:sz=1:=by
    have:=hsz M[j] (List.getElem_mem hj)
    rw [h1] at this
    exact this.symm
   subst hs1
   refine ⟨?_,h2⟩
   unfold cellAt
   rw [Nat.div_one,Nat.mod_one,List.getElem?_eq_getElem hj]
   simp [h1]
  refine ⟨(List.range M.length).map vs,Src.ofSlice w ht ⟨b,off,none⟩ M.length cap _ (by simp) (fun j u hj=>?_) (fun u hu=>?_),fun j d hd=>?_⟩
  ·rw [List.getElem?_map,Option.map_eq_some_iff] at hj
   obtain ⟨k,hk,rfl⟩:=hj
   obtain ⟨hk1,hk2⟩:=List.getElem?_eq_some_iff.1 hk
   simp at hk1 hk2
   subst hk2
   rw [Addr.add_lit]
   exact hcells' j _ (hcell j hk1).1
  ·obtain ⟨j,hj,rfl⟩:=List.mem_map.1 hu
   simp at hj
   exact (hown (hr j _ (hcell j hj).1) (hcell j hj).2).2
  ·have hj:=cellAt_lt (by omega) hd
   rw [Nat.mul_one] at hj
   have e1:cellAt M 1 j=some M[j]:=by
    unfold cellAt
    rw [Nat.div_one,Nat.mod_one,List.getElem?_eq_getElem hj]
    simp [hcells (hc M[j] (List.getElem_mem hj))]
   rw [e1] at hd
   injection hd with hd
   subst hd
   have e2:((List.range M.length).map vs).getD j undef=vs j:=by simp [hj]
   rw [e2]
   exact (hown (hr j _ (hcell j hj).1) (hcell j hj).2).1
theorem okSz_all {sz:Nat}:∀ {l:List D},okSz sz l→∀ e∈l,e.cells.length=sz
 | [],_,e,he=>by cases he
 | x::r,h,e,he=>by
  rcases List.mem_cons.1 he with rfl | he
  ·exact h.1
  ·exact okSz_all h.2 e he
mutual
theorem absK_some:∀ (d:D) {K:D→St→Prop} {st:St},absK d K st→∃ x st',K x st'
 | .int _ _,K,st,h=>by simp only [absK] at h;exact ⟨_,_,h⟩
 | .bool _,K,st,h=>by simp only [absK] at h;exact ⟨_,_,h⟩
 | .str _,K,st,h=>by simp only [absK] at h;exact ⟨_,_,h⟩
 | .nilp,K,st,h=>by simp only [absK] at h;exact ⟨_,_,h⟩
 | .fn _ [],K,st,h=>by simp only [absK] at h;exact ⟨_,_,h⟩
 | .slice _ _,K,st,h=>by simp only [absK] at h;exact ⟨_,_,h⟩
 | .ptr _,K,st,h=>by simp only [absK] at h;exact ⟨_,_,h⟩
 | .nils _,K,st,h=>by simp only [absK] at h;exact ⟨_,_,h⟩
 | .nmp,K,st,h=>by simp only [absK] at h;exact ⟨_,_,h⟩
 | .nifc,K,st,h=>by simp only [absK] at h;exact ⟨_,_,h⟩
 | .ifc _ _,K,st,h=>by simp only [absK] at h;exact ⟨_,_,h⟩
 | .mp _ _,K,st,h=>by simp only [absK] at h
 | .itr _ _,K,st,h=>by simp only [absK] at h
 | .sent _,K,st,h=>by simp only [absK] at h
 | .sub k [],K,st,h=>by
  simp only [absK,takeK] at h
  cases ho:(st.cont k).tk? with
  | none=>rw [ho] at h;exact h.elim
  | some x=>rw [ho] at h;exact ⟨_,_,h⟩
 | .sub k (s::p),K,st,h=>by simp only [absK,takeK] at h;exact ⟨_,_,h⟩
 | .agg l,K,st,h=>by
  simp only [absK] at h
  obtain ⟨l',st',h'⟩:=absL_some l h
  exact ⟨_,_,h'⟩
 | .fn _ (_::_),K,st,h=>by simp only [absK] at h;exact ⟨_,_,h.2⟩
 | .tup _,K,st,h=>by simp only [absK] at h
 | .vw _,K,st,h=>by simp only [absK] at h
 | .o _,K,st,h=>by simp only [absK] at h
 | .box _,K,st,h=>by simp only [absK] at h
 | .row _ _,K,st,h=>by simp only [absK] at h
 | .adr _ _,K,st,h=>by simp only [absK] at h
 | .pre _ _ _,K,st,h=>by simp only [absK] at h
 | .when _ _,K,st,h=>by simp only [absK] at h
 | .dead,K,st,h=>by simp only [absK] at h
theorem absL_some:∀ (l:List D) {K:List D→St→Prop} {st:St},absL l K st→∃ x st',K x st'
 | [],K,st,h=>by simp only [absL] at h;exact ⟨_,_,h⟩
 | x::r,K,st,h=>by
  simp only [absL] at h
  obtain ⟨x',st',h'⟩:=absK_some x h.2
  obtain ⟨l',st'',h''⟩:=absL_some r h'
  exact ⟨_,_,h''⟩
end
theorem absL_live:∀ (l:List D) {K:List D→St→Prop} {st:St},absL l K st→∀ e∈l,∃ K' st',absK e K' st'
 | [],K,st,_,e,he=>by cases he
 | x::r,K,st,h,e,he=>by
  simp only [absL] at h
  rcases List.mem_cons.1 he with rfl | he
  ·exact ⟨_,_,h.2⟩
  ·obtain ⟨x',st',h'⟩:=absK_some x h.2
   exact absL_live r h' e he
theorem cell_live {l:List D} {sz j:Nat} {c:D} (h:∀ e∈l,∃ K' st',absK e K' st') (hc:cellAt l sz j=some c):∃ K' st',absK c K' st':=by
 unfold cellAt at hc
 cases hq:l[j / sz]? with
 | none=>simp [hq] at hc
 | some e =>
  rw [hq,Option.bind_some] at hc
  obtain ⟨K',st',hK⟩:=h e (List.mem_of_getElem? hq)
  have hm:=List.mem_of_getElem? hc
  cases e<;>simp only [D.cells,List.mem_singleton] at hm<;>first | (subst hm;exact ⟨_,_,hK⟩) | skip
  rename_i l0
  simp only [absK] at hK
  exact absL_live l0 hK c hm
theorem one_of_pl {ct:Nat→D} {v:Value} {c:D} (h:Pl w A (RefOk w ct vl) v c) (hp:c.pc=true) (hl:∃ K' st',absK c K' st'):v.oneCell'=true:=by
 obtain ⟨K',st',hK⟩:=hl
 cases c<;>try (cases hp;done)
 case int=>obtain ⟨rfl,_⟩:=pl_int h;rfl
 case bool=>have:=pl_bool h;subst this;rfl
 case str=>obtain ⟨rfl,_⟩:=pl_str h;rfl
 case slice=>have:=pl_slice h;cases this<;>rfl
 case ptr=>obtain ⟨_,_,rfl,_⟩:=pl_ptr h;rfl
 case fn=>obtain ⟨_,rfl,_⟩:=pl_fn h;rfl
 case sub=>obtain ⟨_,_,⟨_,_,_,rfl⟩ | ⟨_,rfl⟩⟩:=pl_sub h<;>rfl
 case adr=>simp only [absK] at hK
 case dead=>simp only [absK] at hK
 case nilp=>have:=pl_rd h (by simp) (by simp) (by simp) (by simp) (by simp);cases this;rfl
 case nils=>have:=pl_rd h (by simp) (by simp) (by simp) (by simp) (by simp);cases this;rfl
 case mp=>simp only [absK] at hK
 case itr=>simp only [absK] at hK
 case sent=>simp only [absK] at hK
 case nmp=>have:=pl_rd h (by simp) (by simp) (by simp) (by simp) (by simp);cases this;rfl
 case nifc=>have:=pl_rd h (by simp) (by simp) (by simp) (by simp) (by simp);cases this;rfl
 case ifc=>have:=pl_rd h (by simp) (by simp) (by simp) (by simp) (by simp);cases this;rfl
theorem app_end {t ty e:TypeId} {i:TypeInfo} {zv:Value} (ht:P.underlying t=some (.slice e)) (hi:P.info? e=some i) (hz:i.zero=some zv) (hzs:zv.cells.size=i.size) (hsz : 0<i.size) (hby : 0<i.bytes)
  {st:St} {s:D} {vs x:Value} {M:List D} {K:St→Prop} (hK:baseK s (fun y st=>y.esz=i.size∧optVC y.len? fun m=>(m+M.length)*i.bytes≤140737488355328∧K (st.push (.o (y.appL M)))) st)
  (h:Hp cx st.cont vl fp G w) (hw:st.wf) (hv:Pl w A (RefOk w st.cont vl) vs s) (hM:∀ x∈M,x.cells.length=i.size) {news:List Value} (hs:Src P i.size t x M.length news w) (Gs:Nat→Nat→Prop)
  (hnew:∀ j d,cellAt M i.size j=some d→Own w (stab cx fp G w) (news.getD j undef) d (Gs j)) (hGdis:∀ i j c,i≠j→Gs i c→¬ Gs j c) (hGG:∀ j c,Gs j c→G c) :
  ∃ v' w',(Builtin.append_ #[t,t] ty #[vs,x]).run P w=.ok v' w'∧∃ st' fp' G',K st'∧Hp cx st'.cont (upd vl (1000+st.n) v') fp' G' w'∧st'.wf∧st'.n=st.n+1∧∀ i,i<1000→st.cont i=.dead→st'.cont i=.dead:=by
 obtain ⟨y,st1,fp1,G1,F,⟨h1,h2⟩,h3,h4⟩:=base_sound hK h hw hv
 cases hl:y.len? with
 | none=>rw [hl] at h2;exact h2.elim
 | some m =>
 rw [hl] at h2
 obtain ⟨hb,hKK⟩:=h2
 obtain ⟨z,L,rfl,rfl⟩:=base_slice h4 hl
 obtain ⟨v',w',F',r1,r2,r3,r4,r5,r6,r7,r8⟩:=append_run (ty:=ty) ht hi hz hzs hsz hby h4 h1 hM hs Gs (fun c hc=>⟨hc.1.1,fun hf=>hc.2.1 (h3.hF c hf).1⟩) (fun c hc=>(h3.hp.ltG c (h3.hF c hc).1).1) (fun j c hc=>(h.ltG c (hGG j c hc)).1)
  (fun j d hd=>(hnew j d hd).mono h3.hst (fun _ _=>rfl) (fun _ _=>rfl) fun _ h=>h) hGdis (fun j c hf hg=>(h3.hF c hf).2 (hGG j c hg)) hb
 obtain ⟨fp2,G2,k1,k2,k3,k4⟩:=push_tree h3.hp h3.wf r3 (fun b hb hg=>r4 b hb fun hf=>hg (h3.hF b hf).1) r5 r6 r7 (fun b hb=>⟨(r8 b hb).1,(r8 b hb).2.elim (fun hf=>.inl (h3.hF b hf).1) fun hh=>hh.elim (fun ⟨j,hj⟩=>.inl (h3.hG b (hGG j b hj))) .inr⟩) r2
 rw [h3.n] at k1 k3
 exact ⟨v',w',r1,_,_,_,hKK,k1,k2,k3,fun i hi hd=>k4 i hi (h3.dd i hd)⟩
theorem one1L_mem:∀ {l:List D},one1L l=true→∀ x∈l,x.one1=true
 | [],_,x,hx=>by cases hx
 | y::r,h,x,hx=>by
  simp only [one1L,Bool.and_eq_true] at h
  rcases List.mem_cons.1 hx with rfl | hx
  ·exact h.1
  ·exact one1L_mem h.2 x hx
theorem app_hp {sz bytes:Nat} {s x:D} {K:St→Prop} {st:St} (hK:appK sz bytes s x K st) (h:Hp cx st.cont vl fp G w) (hw:st.wf) {vs vx:Value} (hs:Pl w (stab cx fp G w) (RefOk w st.cont vl) vs s) (hx:Pl w (stab cx fp G w) (RefOk w st.cont vl) vx x)
  {t ty e:TypeId} {i:TypeInfo} {zv:Value} (ht:P.underlying t=some (.slice e)) (hi:P.info? e=some i) (hz:i.zero=some zv) (hzs:zv.cells.size=i.size) (hisz:i.size=sz) (hsz : 0<sz) (hiby:i.bytes=bytes) (hby : 0<bytes) :
  ∃ v' w',(Builtin.append_ #[t,t] ty #[vs,vx]).run P w=.ok v' w'∧∃ st' fp' G',K st'∧Hp cx st'.cont (upd vl (1000+st.n) v') fp' G' w'∧st'.wf∧st'.n=st.n+1∧∀ i,i<1000→st.cont i=.dead→st'.cont i=.dead:=by
 subst hisz hiby
 unfold appK at hK
 cases hmv:mvRow st x with
 | some kp =>
  rw [hmv] at hK
  obtain ⟨hsafe,hK⟩:=hK
  obtain ⟨k,p⟩:=kp
  have hxk:x=.sub k p:=by
   unfold mvRow at hmv
   split at hmv
   ·split at hmv<;>simp only [reduceCtorEq,Option.some.injEq,Prod.mk.injEq] at hmv
    rw [hmv.1,hmv.2]
   ·split at hmv<;>simp only [reduceCtorEq,Option.some.injEq,Prod.mk.injEq] at hmv
    rw [hmv.1,hmv.2]
   ·cases hmv
  subst hxk
  obtain ⟨y,st1,fp1,G1,F,⟨he,hK1⟩,htk,hown,hkeep⟩:=take_sound hK h hw (pl_sub hx)
  cases hels:y.els? with
  | none=>rw [hels] at hK1;exact hK1.elim
  | some M =>
  rw [hels] at hK1
  obtain ⟨hsl,hK2⟩:=hK1
  have hsv:Pl w (stab cx fp G w) (RefOk w st1.cont vl) vs s:=hs.keep (fun _ h=>h) (fun _ _=>rfl) (by
   have h1:=refs_swap (T:=keepS) (r:=s) (D.sub k p) (show (D.sub k p).refs _ from by
    have:=safeR_keep (show safeR [s] (.sub k p) from hsafe)
    simp only [D.refs,refsL] at this
    exact this.1)
   exact refs_mono (fun q hq=>hkeep q hq) h1)
  have hmvE:∀ e∈M,e.cells.length=i.size∧one1L e.cells=true:=fun e he=>by have:=hsl e he;simp only [D.mvE,Bool.and_eq_true,decide_eq_true_eq] at this;exact this
  have hone:∀ {v:Value} {e:D} {B:Nat→Prop} {F:Nat→Prop},Own w B v e F→e.one1=true→v.oneCell'=true:=fun ho he=>by cases ho<;>first | rfl | cases he
  have hM1:∀ e∈M,e.cells.length=i.size:=fun e he=>(hmvE e he).1
  obtain ⟨news,Fs,n1,n2,n3,n4⟩:∃ (news:List Value) (Fs:Nat→Nat→Prop),Src P i.size t vx M.length news w∧(∀ j d,cellAt M i.size j=some d→Own w (stab cx fp1 G1 w) (news.getD j undef) d (Fs j))∧(∀ i j c,i≠j→Fs i c→¬ Fs j c)∧∀ j c,Fs j c→F c:=by
   cases hown<;>simp only [D.els?,reduceCtorEq,Option.some.injEq] at hels
   ·subst hels
    exact ⟨[],fun _ _=>False,Src.ofNil w ht 0,fun j d hd=>by simp [cellAt] at hd,fun _ _ _ _ h=>h.elim,fun _ _ h=>h.elim⟩
   ·rename_i z L b off cap sz0 cs e0 fz Fs hheap hroom hcap hmaxc hz0 hzz0 hszs hr hdis hFb hfs
    subst hels
    have hsz0:sz0=i.size:=by rw [← hzz0];exact he
    subst hsz0
    have hLcap:L.length*i.size≤cap*i.size:=Nat.mul_le_mul_right _ hcap
    refine ⟨(List.range (L.length*i.size)).map fun j=>cs.getD (off+j) undef,Fs,Src.ofSlice w ht ⟨b,off,none⟩ L.length cap _ (by simp) (fun j u hj=>?_) (fun u hu=>?_),fun j d hd=>?_,hdis,fun j c hc=>(hfs j c hc).2⟩
    ·rw [List.getElem?_map,Option.map_eq_some_iff] at hj
     obtain ⟨q,hq,rfl⟩:=hj
     obtain ⟨hq1,hq2⟩:=List.getElem?_eq_some_iff.1 hq
     simp at hq1 hq2
     subst hq2
     have h3:off+j<cs.size:=by omega
     simp [Addr.add_lit,World.cell?,hheap,h3]
    ·obtain ⟨j,hj,rfl⟩:=List.mem_map.1 hu
     simp at hj
     obtain ⟨d,hd⟩:=cellAt_some hz0 hszs hj
     obtain ⟨e,he,hde⟩:=cellAt_mem hd
     exact hone (hr j d hd) (one1L_mem (hmvE e he).2 d hde)
    ·have hj:=cellAt_lt hz0 hd
     have e2:((List.range (L.length*i.size)).map fun j=>cs.getD (off+j) undef).getD j undef=cs.getD (off+j) undef:=by simp [hj]
     rw [e2]
     exact hr j d hd
  refine app_end (ty:=ty) ht hi hz hzs hsz hby hK2 htk.hp htk.wf hsv hM1 n1 Fs n2 n3 (fun j c hc=>(htk.hF c (n4 j c hc)).1) |>.imp fun v' hh=>hh.imp fun w' hh=>⟨hh.1,by
   obtain ⟨st',fp',G',a1,a2,a3,a4,a5⟩:=hh.2
   rw [htk.n] at a2 a4
   exact ⟨st',fp',G',a1,a2,a3,a4,fun i hi hd=>a5 i hi (htk.dd i hd)⟩⟩
 | none =>
 rw [hmv] at hK
 cases ha:appSrc st x with
 | none=>rw [ha] at hK;exact hK.elim
 | some src =>
 rw [ha] at hK
 unfold appSrc at ha
 cases hrow:isRow st x with
 | some l =>
  rw [hrow] at ha
  simp only [Option.some.injEq] at ha
  subst ha
  obtain ⟨hl,hsafe,hK⟩:=hK
  unfold isRow at hrow
  split at hrow<;>try (cases hrow;done)
  rename_i k
  have hcr:∃ z0,st.cont k=.row z0 l:=by
   cases hc:st.cont k<;>rw [hc] at hrow<;>simp only [D.row?,reduceCtorEq,Option.some.injEq] at hrow
   exact ⟨_,by rw [hrow]⟩
  obtain ⟨z0,hc⟩:=hcr
  obtain ⟨-,hvx,-⟩:=pl_sub hx
  simp only [valAt,Option.some.injEq] at hvx
  have hok:=h.ok k
  rw [hc] at hok
  obtain ⟨b,szr,cs,e0,q1,q2,q3,q4,q5,q6,q7,q8,q9⟩:=hok
  have hlsz:=okSz_all hl
  have hcs:cs.size=l.length*i.size:=by
   cases l with
   | nil=>simpa using q3
   | cons a r =>
    have e1:=q7 a (by simp)
    have e2:=hlsz a (by simp)
    rw [q3];congr 1;omega
  have hcell:∀ j c,cellAt l i.size j=some c→Pl w (stab cx fp G w) (RefOk w st.cont vl) (cs.getD j undef) c∧c.pc=true:=by
   intro j c hj
   cases l with
   | nil=>simp [cellAt] at hj
   | cons a r =>
    have e1:=q7 a (by simp)
    have e2:=hlsz a (by simp)
    have:szr=i.size:=by omega
    subst this
    exact q8 j c hj
  let ev:Nat→Value:=fun q=>if (l.getD q .dead).isAgg=true then .agg (cs.extract (q*i.size) (q*i.size+i.size)) else cs.getD (q*i.size) undef
  have hev:∀ (q off:Nat),q<l.length→off<i.size→(ev q).oneCell'=true∨(l.getD q .dead).isAgg=true→(ev q).cells.getD off undef=cs.getD (q*i.size+off) undef:=by
   intro q off hq ho hone
   have hb1:q*i.size+off<cs.size:=by
    have:(q+1)*i.size≤l.length*i.size:=Nat.mul_le_mul_right _ hq
    rw [Nat.add_mul] at this
    omega
   by_cases hagg:(l.getD q .dead).isAgg=true
   ·simp only [ev,hagg,if_true,Value.cells]
    simp only [Array.getD_eq_getD_getElem?,Array.getElem?_extract]
    rw [if_pos (by omega)]
   ·have hone:=hone.resolve_right hagg
    have hag':(l.getD q .dead).isAgg=false:=by simpa using hagg
    have hlen:=hlsz (l.getD q .dead) (by rw [List.getD_eq_getElem?_getD,List.getElem?_eq_getElem hq];exact List.getElem_mem hq)
    rw [D.cells_one hag'] at hlen
    simp only [List.length_cons,List.length_nil] at hlen
    have ho0:off=0:=by omega
    subst ho0
    have hvc:(ev q).cells=#[ev q]:=by revert hone;generalize ev q=u;intro hone;cases u<;>first | rfl | cases hone
    have e2:ev q=cs.getD (q*i.size) undef:=by simp only [ev,hag',Bool.false_eq_true,if_false]
    rw [hvc,e2]
    rfl
  have hget:∀ (q:Nat) (x:D),l[q]?=some x→q<l.length∧l.getD q .dead=x:=fun q x hq=>⟨(List.getElem?_eq_some_iff.1 hq).1,by rw [List.getD_eq_getElem?_getD,hq];rfl⟩
  have hat:∀ (q off:Nat) (x:D),l[q]?=some x→off<i.size→cellAt l i.size (q*i.size+off)=x.cells[off]?:=by
   intro q off x hq ho
   unfold cellAt
   have e1:(q*i.size+off) / i.size=q:=by rw [Nat.mul_comm,Nat.mul_add_div hsz,Nat.div_eq_of_lt ho];rfl
   have e2:(q*i.size+off) % i.size=off:=by rw [Nat.mul_comm,Nat.mul_add_mod,Nat.mod_eq_of_lt ho]
   rw [e1,e2,hq];rfl
  have hlive:=absL_live l hK
  have hels:∀ (q:Nat) (x:D),l[q]?=some x→Pl w (stab cx fp G w) (RefOk w st.cont vl) ((((List.range l.length).map ev).toArray).getD q undef) x:=by
   intro q x hq
   obtain ⟨hq1,hq2⟩:=hget q x hq
   have e1:(((List.range l.length).map ev).toArray).getD q undef=ev q:=by simp [hq1]
   rw [e1]
   have hxl:=hlsz x (List.mem_of_getElem? hq)
   have hb1:(q+1)*i.size≤l.length*i.size:=Nat.mul_le_mul_right _ hq1
   rw [Nat.add_mul] at hb1
   by_cases hagg:x.isAgg=true
   ·have e2:ev q=.agg (cs.extract (q*i.size) (q*i.size+i.size)):=by simp only [ev,hq2,hagg,if_true]
    rw [e2]
    cases x<;>simp only [D.isAgg,Bool.false_eq_true] at hagg
    rename_i l0
    have hl0:l0.length=i.size:=hxl
    refine .agg (by simp;omega) fun off c hoc=>?_
    have ho:=(List.getElem?_eq_some_iff.1 hoc).1
    have:=(hcell (q*i.size+off) c (by rw [hat q off _ hq (by omega)];exact hoc)).1
    simp only [Array.getD_eq_getD_getElem?,Array.getElem?_extract] at this ⊢
    rw [if_pos (by omega)]
    exact this
   ·have hag':x.isAgg=false:=by simpa using hagg
    have e2:ev q=cs.getD (q*i.size) undef:=by simp only [ev,hq2,hag',Bool.false_eq_true,if_false]
    rw [e2]
    have:=(hcell (q*i.size+0) x (by rw [hat q 0 _ hq hsz,D.cells_one hag'];rfl)).1
    exact this
  obtain ⟨M,st1,fp1,G1,Fs,k1,k2,k3,k4,k5,k6⟩:=absL_sound l hK h hw (fun _ h=>h) hels
  have hs1:Pl w (stab cx fp G w) (RefOk w st1.cont vl) vs s:=hs.keep (fun _ h=>h) (fun _ _=>rfl) (by
   have h1:s.refs fun q=>refsL (fun t=>keepS t q) l:=by
    have:=refs_swap (T:=keepS) (r:=s) (.agg l) (refs_mono (fun d hd=>by
     have:=safeR_keep hd
     simp only [D.refs,refsL] at this
     exact this.1) (show (D.agg l).refs _ from hsafe))
    exact this
   exact refs_mono (fun q hq=>k6 q hq) h1)
  have hMget:∀ (q:Nat) (y:D),M[q]?=some y→q<l.length∧y.cells.length=i.size∧(y.isAgg=false→(ev q).oneCell'=true)∧Own w (stab cx fp1 G1 w) (ev q) y (Fs q)∧(y.isAgg=true→(l.getD q .dead).isAgg=true):=by
   intro q y hq
   obtain ⟨r1,r2,d,r3,r4,r5⟩:=k4 q y hq
   obtain ⟨hq1,hq2⟩:=hget q d r3
   have e1:(((List.range l.length).map ev).toArray).getD q undef=ev q:=by simp [hq1]
   rw [e1] at r1 r2
   exact ⟨hq1,by rw [r5];exact hlsz d (List.mem_of_getElem? r3),r2,r1,fun hy=>by rw [hq2,← r4];exact hy⟩
  have hskol:∀ q,∃ Gs:Nat→Nat→Prop,∀ y,M[q]?=some y→(∀ (off:Nat) (d:D),y.cells[off]?=some d→Own w (stab cx fp1 G1 w) ((ev q).cells.getD off undef) d (Gs off))∧(∀ off c,Gs off c→Fs q c)∧(∀ i j c,i≠j→Gs i c→¬ Gs j c):=by
   intro q
   cases hq:M[q]? with
   | none=>exact ⟨fun _ _=>False,fun y hy=>by cases hy⟩
   | some y =>
    obtain ⟨_,_,r3,r4,_⟩:=hMget q y hq
    obtain ⟨Gs,g1,g2,g3⟩:=own_cells r4 r3
    exact ⟨Gs,fun y' hy'=>by injection hy' with hy';subst hy';exact ⟨g1,g2,g3⟩⟩
  obtain ⟨Gq,hGq⟩:=Classical.skolem.1 hskol
  have hsrc:Src P i.size t vx M.length cs.toList w:=by
   rw [← hvx,q1,k3]
   refine Src.ofSlice w ht ⟨b,0,none⟩ l.length l.length cs.toList (by rw [Array.length_toList,hcs]) (fun j u hj=>?_) (fun u hu=>?_)
   ·rw [Addr.add_lit]
    simp only [Array.getElem?_toList] at hj
    simp [World.cell?,q2,hj]
   ·obtain ⟨j,hj,rfl⟩:=List.getElem_of_mem hu
    have hj':j<cs.size:=by simpa using hj
    obtain ⟨c,hc'⟩:=cellAt_some hsz hlsz (show j<l.length*i.size by omega)
    obtain ⟨p1,p2⟩:=hcell j c hc'
    have e1:cs.toList[j]=cs.getD j undef:=by simp [hj']
    rw [e1]
    exact one_of_pl p1 p2 (cell_live hlive hc')
  refine app_end (ty:=ty) ht hi hz hzs hsz hby k1 k2.hp k2.wf hs1 (fun x hx=>?_) hsrc (fun j c=>j / i.size<M.length∧Gq (j / i.size) (j % i.size) c) (fun j d hj=>?_) (fun j j' c hne hj hj'=>?_) (fun j c hj=>?_) |>.imp fun v' hh=>hh.imp fun w' hh=>⟨hh.1,by
   obtain ⟨st',fp',G',a1,a2,a3,a4,a5⟩:=hh.2
   rw [k2.n] at a2 a4
   exact ⟨st',fp',G',a1,a2,a3,a4,fun i hi hd=>a5 i hi (k2.dd i hd)⟩⟩
  ·obtain ⟨q,hq,rfl⟩:=List.getElem_of_mem hx
   exact (hMget q _ (List.getElem?_eq_getElem hq)).2.1
  ·unfold cellAt at hj
   cases hq:M[j / i.size]? with
   | none=>simp [hq] at hj
   | some y =>
    rw [hq,Option.bind_some] at hj
    obtain ⟨r1,r2,r3,r4,r5⟩:=hMget _ _ hq
    obtain ⟨g1,g2,g3⟩:=hGq _ y hq
    have hmod:=Nat.mod_lt j hsz
    have hdm:j / i.size*i.size+j % i.size=j:=by rw [Nat.mul_comm];exact Nat.div_add_mod j _
    have:=g1 _ _ hj
    rw [hev _ _ r1 hmod (by
     by_cases hy:y.isAgg=true
     ·exact .inr (r5 hy)
     ·exact .inl (r3 (by simpa using hy))),hdm] at this
    have e1:cs.toList.getD j undef=cs.getD j undef:=by simp
    rw [e1]
    exact this.mono (fun _ h=>h) (fun _ _=>rfl) (fun _ _=>rfl) fun c hc=>⟨(List.getElem?_eq_some_iff.1 hq).1,hc⟩
  ·obtain ⟨a1,a2⟩:=hj
   obtain ⟨b1,b2⟩:=hj'
   obtain ⟨_,g2,g3⟩:=hGq _ _ (List.getElem?_eq_getElem a1)
   obtain ⟨_,g2',g3'⟩:=hGq _ _ (List.getElem?_eq_getElem b1)
   by_cases hq:j / i.size=j' / i.size
   ·rw [← hq] at b2
    refine g3 _ _ c (fun hm=>hne ?_) a2 b2
    have e1:=Nat.div_add_mod j i.size
    have e2:=Nat.div_add_mod j' i.size
    rw [← e1,← e2,hq,hm]
   ·exact k5 _ _ c hq (g2 _ c a2) (g2' _ c b2)
  ·obtain ⟨a1,a2⟩:=hj
   obtain ⟨_,g2,_⟩:=hGq _ _ (List.getElem?_eq_getElem a1)
   exact (k2.hF c ⟨_,g2 _ c a2⟩).1
 | none =>
  rw [hrow] at ha
  simp only at ha
  cases hsr:srcOf st x with
  | none=>rw [hsr] at ha;cases ha
  | some M =>
  rw [hsr,Option.bind_some] at ha
  injection ha with ha
  subst ha
  obtain ⟨hsc,hs1,-,hK⟩:=hK
  have hview:∃ z,Rd w (live w) vx (.slice z M):=by
   have els:∀ {d:D},Rd w (live w) vx d→d.els?=some M→∃ z,Rd w (live w) vx (.slice z M):=by
    intro d hd he
    cases d<;>simp only [D.els?,reduceCtorEq,Option.some.injEq] at he
    ·subst he;exact ⟨_,hd⟩
    ·subst he;cases hd;exact ⟨.dead,.nil⟩
   unfold srcOf at hsr
   split at hsr
   ·rename_i k p
    have hr:=pl_sub hx
    rw [Option.bind_eq_some_iff] at hsr
    obtain ⟨c,hc,he⟩:=hsr
    unfold lk at hc
    split at hc<;>simp only [reduceCtorEq,Option.some.injEq] at hc
    subst hc
    rcases sub_ok (h.ok k) hr with ⟨z,l,hck,rfl,hvl⟩ | ⟨F',hown,hFF,_,_⟩
    ·rw [hck] at he;cases he
    ·exact els (own_live (fun b hb=>hb.1.1) (fun b hb=>(h.lt k b (hFF b hb)).1) hown) he
   ·have:∀ (hne:∀ l,x≠.agg l) (hne':∀ l,x≠.tup l) (ha:∀ k p,x≠.adr k p) (hf:∀ f c,x≠.fn f c) (hpr:∀ k p n,x≠.pre k p n),∃ z,Rd w (live w) vx (.slice z M):=fun h1 h2 h3 h4 h5 =>
     els ((pl_rd hx (by intro k p hh;rename_i hno;exact hno k p hh) h3 h4 h1 h2 h5).mono (fun b hb=>hb.1.1) fun _ _=>rfl) hsr
    exact this (by rintro l rfl;cases hsr) (by rintro l rfl;cases hsr) (by rintro k p rfl;cases hsr) (by rintro f c rfl;cases hsr) (by rintro k p n rfl;cases hsr)
  obtain ⟨z,hrd⟩:=hview
  obtain ⟨news,n1,n2⟩:=src_view (P:=P) ht hrd hsc (stab cx fp G w)
  refine app_end (ty:=ty) ht hi hz hzs hsz hby hK h hw hs (fun x hx=>?_) (by rw [hs1];exact n1) (fun _ _=>False) (by rw [hs1];exact n2) (fun _ _ _ _ h=>h.elim) (fun _ _ h=>h.elim)
  have:=hsc x hx
  rw [hs1]
  cases x<;>first | rfl | cases this
end
end Go.D3
