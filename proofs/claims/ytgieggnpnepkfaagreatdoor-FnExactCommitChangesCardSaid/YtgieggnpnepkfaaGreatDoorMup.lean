/- A MAP IS GIVEN AN ENTRY. Generic. -/
import Derived.Test.YtgieggnpnepkfaaGreatDoorCpy
namespace Go.D3
open Go
section
variable {P:Program} {cx:Ctx} {vl:Nat→Value} {fp:Nat→Nat→Prop} {G:Nat→Prop} {w:World}
theorem mset_run {t kt et:TypeId} {d:TypeDesc} {kv xv:Value} {k x:D} {ks vs:List D} {r clock:Nat} {es:Array MapEntry} {f:Option Nat} (hm:P.underlying t=some (.map kt et)) (hu:P.underlying kt=some d) (hd:kindOk d k) (hk:Sc kv k) (hx:Sc xv x)
  (hb:w.heap[r]?=some (.map es clock)) (hE:MapE es ks vs) (hf:mfind k ks=some f) (hlen:ks.length<maxLen) :
  ∃ es' clock',(Instr.mapUpdate t (.map (some r)) kv xv).run P w=.ok () { w with heap:=w.heap.setIfInBounds r (.map es' clock') }∧MapE es' (mput k x ks vs f).1 (mput k x ks vs f).2:=by
 obtain ⟨⟨l1,l2,l3⟩,s1,s2⟩:=hE
 obtain ⟨f1,f2⟩:=find_now hd hk es.toList ks 0 (by simpa using l1) (fun j x y hj hy=>s1 j x y (by simpa using hj) hy) hf
 cases f with
 | none =>
  refine ⟨es.push { key:=kv,val:=xv,born:=clock },clock+1,?_,⟨by simp [mput,l1],by simp [mput,l2],by simp [mput];omega⟩,fun j e y hj hy=>?_,fun j e y hj hy=>?_⟩
  ·unfold Instr.mapUpdate
   simp only [Sem.run_bind,run_underlying hm,Result.andThen_ok,MapKept.run_getObj_map hb,check_key hu hd hk,MapKept.run_findKey hu f1,Option.map_none,MapKept.run_setObj_map _ hb]
  ·simp only [mput] at hy
   rw [Array.getElem?_push] at hj
   split at hj
   ·rename_i hjs
    injection hj with hj
    subst hj;subst hjs
    rw [l1,List.getElem?_append_right (Nat.le_refl _)] at hy
    simp at hy;subst hy;exact hk
   ·have hlt:=(Array.getElem?_eq_some_iff.1 hj).1
    rw [List.getElem?_append_left (by omega)] at hy
    exact s1 j e y hj hy
  ·simp only [mput] at hy
   rw [Array.getElem?_push] at hj
   split at hj
   ·rename_i hjs
    injection hj with hj
    subst hj;subst hjs
    rw [List.getElem?_append_right (by omega)] at hy
    simp [l1,l2] at hy;subst hy;exact hx
   ·have hlt:=(Array.getElem?_eq_some_iff.1 hj).1
    rw [List.getElem?_append_left (by omega)] at hy
    exact s2 j e y hj hy
 | some i =>
  obtain ⟨e0,e1,e2,e3⟩:=f2 i rfl
  have e1':es[i]?=some e0:=by simpa using e1
  have hsame:(Instr.keyThatStays (((es[i]?).map (·.key)).getD kv) kv).run P w=.ok kv w:=by
   rw [e1']
   simp only [Option.map_some,Option.getD_some,e2]
   have:Instr.sameBits 10000 kv kv=true:=by
    cases d<;>cases k<;>try exact hd.elim
    all_goals cases hk
    all_goals simp [Instr.sameBits,MapKept.bytes_beq]
   simp [Instr.keyThatStays,this]
  have hget:∀ j e,(es.modify i fun e=>{ e with key:=kv,val:=xv })[j]?=some e→∃ e',es[j]?=some e'∧e.key=e'.key∧(e.val=if j=i then xv else e'.val):=by
   intro j e hj
   rw [Array.getElem?_modify] at hj
   split at hj
   ·rename_i hij
    subst hij
    rw [e1'] at hj
    simp only [Option.map_some,Option.some.injEq] at hj
    subst hj
    exact ⟨e0,e1',e2.symm,by simp⟩
   ·rename_i hij
    exact ⟨e,hj,rfl,by rw [if_neg (Ne.symm hij)]⟩
  refine ⟨es.modify i fun e=>{ e with key:=kv,val:=xv },clock,?_,⟨by simp [mput,l1],by simp [mput,l2],by simpa [mput] using l3⟩,fun j e y hj hy=>?_,fun j e y hj hy=>?_⟩
  ·unfold Instr.mapUpdate
   simp only [Sem.run_bind,run_underlying hm,Result.andThen_ok,MapKept.run_getObj_map hb,check_key hu hd hk,MapKept.run_findKey hu f1,Option.map_some,Nat.zero_add,hsame,MapKept.run_setObj_map _ hb]
  ·obtain ⟨e',h1,h2,_⟩:=hget j e hj
   rw [h2]
   exact s1 j e' y h1 (by simpa [mput] using hy)
  ·obtain ⟨e',h1,_,h2⟩:=hget j e hj
   simp only [mput] at hy
   rw [h2]
   by_cases hji:j=i
   ·subst hji
    have hlt:=(Array.getElem?_eq_some_iff.1 h1).1
    rw [List.getElem?_set_self (by omega)] at hy
    injection hy with hy;subst hy
    rw [if_pos rfl];exact hx
   ·rw [List.getElem?_set_ne (Ne.symm hji)] at hy
    rw [if_neg hji]
    exact s2 j e' y h1 hy
theorem own_mp {A:Nat→Prop} {v:Value} {ks vs:List D} {F:Nat→Prop} (h:Own w A v (.mp ks vs) F):∃ r es clock,v=.map (some r)∧F r∧w.heap[r]?=some (.map es clock)∧MapE es ks vs:=by
 cases h
 exact ⟨_,_,_,rfl,‹_›,‹_›,‹_›⟩
theorem head_one {α:Type} {l:List α} (h:l.length=1):∃ x,l=[x]:=by
 match l,h with
 | [x],_=>exact ⟨x,rfl⟩
theorem own_itr {A:Nat→Prop} {v:Value} {s:List UInt8} {p:Nat} {F:Nat→Prop} (h:Own w A v (.itr s p) F):∃ r,v=.pointer (some ⟨r,0,none⟩)∧F r∧w.heap[r]?=some (.stringIter ⟨s.toArray⟩ p)∧s.length≤maxLen:=by
 cases h
 exact ⟨_,rfl,‹_›,‹_›,‹_›⟩
theorem nxt_hp {j:Nat} {K:St→Prop} {st:St} (hK:@nxtVC j ⟨K⟩ st) (h:Hp cx st.cont vl fp G w) (hw:st.wf) {ty:TypeId} :
  ∃ w' v,(Instr.next (vl j) true ty).run P w=.ok v w'∧∃ st',K st'∧(∃ fp' G',Hp cx st'.cont (upd vl (1000+st.n) v) fp' G' w')∧st'.wf∧st'.n=st.n+1∧∀ i,i<1000→st.cont i=.dead→st'.cont i=.dead:=by
 unfold nxtVC at hK
 cases ho:(st.cont j).itr? with
 | none=>rw [ho] at hK;exact hK.elim
 | some e =>
 rw [ho] at hK
 simp only [optVC] at hK
 obtain ⟨s,p⟩:=e
 have hc:st.cont j=.o (.itr s p):=by
  generalize st.cont j=c at ho
  cases c<;>simp only [D.itr?,reduceCtorEq] at ho
  rename_i y
  cases y<;>simp only [reduceCtorEq,Option.some.injEq,Prod.mk.injEq] at ho
  obtain ⟨rfl,rfl⟩:=ho
  rfl
 have hown:=h.ok j
 rw [hc] at hown
 have hown:Own w (stab cx fp G w) (vl j) (.itr s p) (fp j):=hown
 obtain ⟨r,hv,hF,hb,hs⟩:=own_itr hown
 have hin:st.in j:=by
  by_cases hin:st.in j
  ·exact hin
  ·rw [St.cont_out hin] at hc;cases hc
 by_cases hp:p<s.length
 ·have hK:=hK.1 hp
  simp only at hK
  obtain ⟨hh1,hh2⟩:=MapKept.heap_set (o':=.stringIter ⟨s.toArray⟩ (p+(runeAt s p).2)) hb
  have hrun:(Instr.next (vl j) true ty).run P w=.ok (.tuple #[.bool true,.int .i64 p,.int .i32 (runeAt s p).1]) { w with heap:=w.heap.setIfInBounds r (.stringIter ⟨s.toArray⟩ (p+(runeAt s p).2)) }:=by
   rw [hv]
   have hp':p<(ByteArray.mk s.toArray).size:=by rw [show (ByteArray.mk s.toArray).size=s.toArray.size from rfl,List.size_toArray];exact hp
   simp only [Instr.next,getObj,setObj,Sem.run_bind,Sem.run,hb,Result.andThen,hp',if_true]
   simp [goInt,runeAt]
  have h1:=(h.change (k:=j) (c':=.o (.itr s (p+(runeAt s p).2))) (F':=fp j) (G':=G) (w':={ w with heap:=w.heap.setIfInBounds r (.stringIter ⟨s.toArray⟩ (p+(runeAt s p).2)) }) (fun _=>True) rfl
    (by rw [hv];exact Own.itr hF hh1 hs) (fun i _=>refs_all (fun _=>trivial) _) (refs_all (fun _=>trivial) _) (fun b hb=>.inl hb) (fun b hb=>.inr hb) (h.disG j)
    (by simp) (fun b hbn=>hh2 b (fun e=>hbn (by rw [e];exact hF))) rfl rfl rfl
    (fun p _ hp=>by
      rw [hc] at hp ⊢
      cases p with
      | nil=>exact ⟨⟨trivial,fun hl=>by cases hl⟩,rfl⟩
      | cons s p=>exact hp.1.1.elim)
    (fun p _ hp=>by
      rw [hc] at hp ⊢
      cases p with
      | nil=>exact ⟨trivial,rfl⟩
      | cons s p=>exact hp.1.elim)).1
  rw [← St.cont_put_in hw hin] at h1
  have hwf:=St.wf_put hw j (.o (.itr s (p+(runeAt s p).2)))
  have hdead:(st.put j (.o (.itr s (p+(runeAt s p).2)))).cont (1000+st.n)=.dead:=St.cont_out (by simp only [St.in,St.n_put,not_or,not_and];omega)
  have hnn:(st.put j (.o (.itr s (p+(runeAt s p).2)))).n=st.n:=St.n_put _ _ _
  refine ⟨_,_,hrun,_,hK,⟨upd (upd fp j (fp j)) (1000+st.n) fun _=>False,G,?_⟩,St.wf_push hwf _,by rw [← hnn];rfl,fun i hi hdd=>?_⟩
  ·rw [St.cont_push hwf,hnn]
   refine h1.put (by rw [hdead];rfl) (F:=fun _=>False) (show Pl _ _ _ _ _ from ?_) (fun _ h=>h.elim) (fun _ h=>h) (fun _ h=>h.elim) (fun _ _ h=>h)
   refine .rd (.tup rfl fun j x hj=>?_)
   match j,hj with
   | 0,hj=>simp at hj;subst hj;exact .bool
   | 1,hj=>simp at hj;subst hj;exact .int (has_len (n:=p) (by omega))
   | 2,hj=>simp at hj;subst hj;exact .int ⟨by simp [IntKind.min,IntKind.signed,IntKind.bits],by have:=decode_le ⟨s.toArray⟩ p;simp only [IntKind.max,IntKind.signed,IntKind.bits,runeAt];omega⟩
   | j+3,hj=>simp at hj
  ·rw [St.cont_push hwf,hnn,upd_ne _ _ (by omega),St.cont_put_in hw hin]
   by_cases hij:i=j
   ·subst hij;rw [hc] at hdd;cases hdd
   ·rw [upd_ne _ _ hij];exact hdd
 ·have hK:=hK.2 (Nat.le_of_not_lt hp)
  have hrun:(Instr.next (vl j) true ty).run P w=.ok (.tuple #[.bool false]) w:=by
   rw [hv]
   have hp':¬ p<(ByteArray.mk s.toArray).size:=by rw [show (ByteArray.mk s.toArray).size=s.toArray.size from rfl,List.size_toArray];exact hp
   simp [Instr.next,getObj,Sem.run,hb,Result.andThen,hp']
  have hdd:st.cont (1000+st.n)=.dead:=St.cont_out (by simp only [St.in,not_or,not_and];omega)
  refine ⟨_,_,hrun,_,hK,⟨upd fp (1000+st.n) fun _=>False,G,?_⟩,St.wf_push hw _,rfl,fun i hi hd=>by rw [St.cont_push hw,upd_ne _ _ (by omega)];exact hd⟩
  rw [St.cont_push hw]
  refine h.put (by rw [hdd];rfl) (F:=fun _=>False) (show Pl _ _ _ _ _ from ?_) (fun _ h=>h.elim) (fun _ h=>h) (fun _ h=>h.elim) (fun _ _ h=>h)
  refine .rd (.tup rfl fun j x hj=>?_)
  match j,hj with
  | 0,hj=>simp at hj;subst hj;exact .bool
  | j+1,hj=>simp at hj
theorem mup_hp {kk:Nat} {dm k x:D} {K:St→Prop} {st:St} (hK:@mupVC kk dm k x ⟨K⟩ st) (h:Hp cx st.cont vl fp G w) (hw:st.wf) {vm kv xv:Value} (hm:Pl w (stab cx fp G w) (RefOk w st.cont vl) vm dm) (hk:Pl w (stab cx fp G w) (RefOk w st.cont vl) kv k)
  (hx:Pl w (stab cx fp G w) (RefOk w st.cont vl) xv x) {t kt et:TypeId} (ht:P.underlying t=some (.map kt et)) (hkt:kindT P kt kk=true) (v:Value) :
  ∃ w',(Instr.mapUpdate t vm kv xv).run P w=.ok () w'∧∃ st',K st'∧(∃ fp' G',Hp cx st'.cont (upd vl (1000+st.n) v) fp' G' w')∧st'.wf∧st'.n=st.n+1∧∀ i,i<1000→st.cont i=.dead→st'.cont i=.dead:=by
 obtain ⟨hks,hxs,hK⟩:=hK
 have scl:∀ {u:Value} {d:D},Pl w (stab cx fp G w) (RefOk w st.cont vl) u d→d.scal=true→Sc u d:=fun hu hd=>by
  refine sc_of_scal (pl_rd hu ?_ ?_ ?_ ?_ ?_ ?_) hd<;>intros<;>intro hh<;>rw [hh] at hd<;>cases hd
 have hk':=scl hk (keyS_scal hks)
 have hx':=scl hx hxs
 obtain ⟨d,hu,hd⟩:=kind_of hkt hks
 split at hK
 case h_3=>exact hK.elim
 case h_1 j =>
  cases ho:(st.cont j).o?.bind D.mp? with
  | none=>rw [ho] at hK;exact hK.elim
  | some e =>
  rw [ho] at hK
  simp only [optVC] at hK
  cases hf:mfind k e.1 with
  | none=>rw [hf] at hK;exact hK.elim
  | some f =>
  rw [hf] at hK
  obtain ⟨hlen,hK⟩:=hK
  obtain ⟨ks,vs⟩:=e
  have hc:st.cont j=.o (.mp ks vs):=by
   generalize st.cont j=c at ho
   cases c<;>simp only [D.o?,Option.bind_none,reduceCtorEq,Option.bind_some] at ho
   rename_i y
   cases y<;>simp only [D.mp?,reduceCtorEq,Option.some.injEq,Prod.mk.injEq] at ho
   obtain ⟨rfl,rfl⟩:=ho
   rfl
  obtain ⟨_,hv,_⟩:=pl_sub hm
  simp only [valAt,Option.some.injEq] at hv
  have hown:=h.ok j
  rw [hc,hv] at hown
  have hown:Own w (stab cx fp G w) vm (.mp ks vs) (fp j):=hown
  obtain ⟨r,es,clock,rfl,hF,hb,hE⟩:=own_mp hown
  obtain ⟨es',clock',hrun,hE'⟩:=mset_run ht hu hd hk' hx' hb hE hf hlen
  obtain ⟨hh1,hh2⟩:=MapKept.heap_set (o':=.map es' clock') hb
  have hin:st.in j:=by
   by_cases hin:st.in j
   ·exact hin
   ·rw [St.cont_out hin] at hc;cases hc
  have h1:=(h.change (k:=j) (c':=.o (.mp (mput k x ks vs f).1 (mput k x ks vs f).2)) (F':=fp j) (G':=G) (w':={ w with heap:=w.heap.setIfInBounds r (.map es' clock') }) (fun _=>True) rfl
    (by rw [hv];exact Own.mp hF hh1 hE') (fun i _=>refs_all (fun _=>trivial) _) (refs_all (fun _=>trivial) _) (fun b hb=>.inl hb) (fun b hb=>.inr hb) (h.disG j)
    (by simp) (fun b hbn=>hh2 b (fun e=>hbn (by rw [e];exact hF))) rfl rfl rfl
    (fun p _ hp=>by
      rw [hc] at hp ⊢
      cases p with
      | nil=>exact ⟨⟨trivial,fun hl=>by cases hl⟩,rfl⟩
      | cons s p=>exact hp.1.1.elim)
    (fun p _ hp=>by
      rw [hc] at hp ⊢
      cases p with
      | nil=>exact ⟨trivial,rfl⟩
      | cons s p=>exact hp.1.elim)).1
  rw [← St.cont_put_in hw hin] at h1
  have hwf:=St.wf_put hw j (.o (.mp (mput k x ks vs f).1 (mput k x ks vs f).2))
  have hdead:(st.put j (.o (.mp (mput k x ks vs f).1 (mput k x ks vs f).2))).cont (1000+st.n)=.dead:=St.cont_out (by simp only [St.in,St.n_put,not_or,not_and];omega)
  have hnn:(st.put j (.o (.mp (mput k x ks vs f).1 (mput k x ks vs f).2))).n=st.n:=St.n_put _ _ _
  refine ⟨_,hrun,_,hK,⟨upd (upd fp j (fp j)) (1000+st.n) fun _=>False,G,?_⟩,St.wf_push hwf _,by rw [← hnn];rfl,fun i hi hdd=>?_⟩
  ·rw [St.cont_push hwf,hnn]
   exact h1.put (by rw [hdead];rfl) (F:=fun _=>False) Pl.dead (fun _ h=>h.elim) (fun _ h=>h) (fun _ h=>h.elim) (fun _ _ h=>h)
  ·rw [St.cont_push hwf,hnn,upd_ne _ _ (by omega),St.cont_put_in hw hin]
   by_cases hij:i=j
   ·subst hij;rw [hc] at hdd;cases hdd
   ·rw [upd_ne _ _ hij];exact hdd
 case h_2 j s p =>
  have hr0:=pl_sub hm
  have hself:=fun i k s p hi=>absL_self hK (i:=i) (k:=k) (s:=s) (p:=p) hi
  obtain ⟨l',st1,fp1,G1,Fs,hK,h2,h3,h4,h5,h6⟩:=absL_sound (A:=stab cx fp G w) (vs:=#[vm]) _ hK h hw (fun _ h=>h) (fun j y hj=>by
   cases j with
   | zero=>simp at hj;subst hj;exact hm
   | succ j=>simp at hj)
  obtain ⟨y,rfl⟩:=head_one (show l'.length=1 from h3)
  simp only [List.head?_cons,Option.bind_some] at hK
  cases ho:y.mp? with
  | none=>rw [ho] at hK;exact hK.elim
  | some e =>
  rw [ho] at hK
  simp only [optVC] at hK
  cases hf:mfind k e.1 with
  | none=>rw [hf] at hK;exact hK.elim
  | some f =>
  rw [hf] at hK
  obtain ⟨hlen,hK⟩:=hK
  obtain ⟨ks,vs⟩:=e
  have hy:y=.mp ks vs:=by cases y<;>simp only [D.mp?,reduceCtorEq,Option.some.injEq,Prod.mk.injEq] at ho;obtain ⟨rfl,rfl⟩:=ho;rfl
  subst hy
  have hown:Own w (stab cx fp1 G1 w) vm (.mp ks vs) (Fs 0):=(h4 0 _ rfl).1
  obtain ⟨r,es,clock,rfl,hF,hb,hE⟩:=own_mp hown
  obtain ⟨es',clock',hrun,hE'⟩:=mset_run ht hu hd hk' hx' hb hE hf hlen
  obtain ⟨hh1,hh2⟩:=MapKept.heap_set (o':=.map es' clock') hb
  have hlive:∀ b,Fs 0 b→b<w.heap.size:=fun b hb=>(h2.hp.ltG b (h2.hF b ⟨0,hb⟩).1).1
  obtain ⟨st',k1,k2,k3,k4,k5⟩:=parts_end (vs:=fun _=>.map (some r)) (Fs2:=fun j b=>j=0∧b=r) (F1:=fun _=>False) (F2:=fun b=>b=r) (res:=.dead) (v:=v) (w':={ w with heap:=w.heap.setIfInBounds r (.map es' clock') }) h2 hK
   (fun j k' s' p' hj=>by
     cases j with
     | zero =>
      have hs:=hself 0 k' s' p' hj
      simp at hj
      obtain ⟨rfl,rfl,rfl⟩:=hj
      exact hr0.keep (h6 _ hs)
     | succ j=>simp at hj)
   (by simp) .dead (fun j z hj=>by
     cases j with
     | zero=>simp at hj;subst hj;exact Own.mp ⟨rfl,rfl⟩ hh1 hE'
     | succ j=>simp at hj)
   (fun j b hb=>hb.2) (fun i j b hij hi hj=>hij (hi.1.trans hj.1.symm)) (fun b hb=>hb.elim) (fun b hb=>⟨by subst hb;simpa using hlive _ hF,.inr ⟨0,by subst hb;exact hF⟩⟩) (fun b _ hn=>hh2 b (by rintro rfl;exact hn ⟨0,hF⟩)) rfl rfl rfl
  exact ⟨_,hrun,st',k1,k2,k3,k4,k5⟩
end
end Go.D3
