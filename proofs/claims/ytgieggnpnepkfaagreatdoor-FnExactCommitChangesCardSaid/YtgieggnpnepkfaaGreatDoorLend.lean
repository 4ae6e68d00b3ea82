/- CALLS WHOSE FIRST ARGUMENT GOES IN AND OUT. Generic. -/
import Derived.Test.YtgieggnpnepkfaaGreatDoorAppHp
namespace Go.D3
open Go
section
variable {w:World} {A:Nat→Prop} {R R':Value→D→Prop} {v:Value} {F:Nat→Prop}
theorem Pl.tidy {d:D} (h:Pl w A R v d) (hR:∀ v d,R v d→Rd w A v d):Pl w A R' v d:=by
 induction h with
 | rd h=>exact .rd h
 | ref h=>exact .rd (hR _ _ h)
 | agg hs _ ih=>exact .agg hs ih
 | tup hs _ ih=>exact .tup hs ih
 | fn hs _ ih=>exact .fn hs ih
theorem CellOk.tidy {d:D} (h:CellOk w A R v F d) (hR:∀ v d,R v d→Rd w A v d):CellOk w A R' v F d:=by
 cases d<;>first | exact Pl.tidy h hR | exact h
theorem ContOk.tidy {d:D} (h:ContOk w A R v F d) (hR:∀ v d,R v d→Rd w A v d):ContOk w A R' v F d:=by
 cases d
 case o x=>exact h
 case box l =>
  obtain ⟨h0,b,cs,e,Fs,h1,h2,h3,h4,h5,h6,h7⟩:=h
  exact ⟨h0,b,cs,e,Fs,h1,h2,h3,fun j c hj=>(h4 j c hj).tidy hR,h5,h6,h7⟩
 case row z l =>
  obtain ⟨b,sz,cs,e,h1,h2,h3,h3',h3'',h3a,h3b,h4,h5⟩:=h
  exact ⟨b,sz,cs,e,h1,h2,h3,h3',h3'',h3a,h3b,fun j c hj=>⟨(h4 j c hj).1.tidy hR,(h4 j c hj).2⟩,h5⟩
 case when g x=>exact ⟨fun hg=>(h.1 hg).tidy hR,h.2⟩
 all_goals exact Pl.tidy h hR
theorem ContOk.bare {ct:Nat→D} {vl:Nat→Value} {d:D} (h:ContOk w A (RefOk w ct vl) v F d) (hd:d.refs noRef):ContOk w A R' v F d:=by
 refine ContOk.tidy (h.mono (Q:=noRef) (A':=A) (w':=w) (R':=fun _ _=>False) (fun _ h=>h) (fun _ _=>rfl) (fun _ _=>rfl) (fun _ h=>h) hd fun v d hq hr=>?_) ?_
 ·rcases RefOk.form v d hr with ⟨k,p,rfl⟩ | ⟨k,p,rfl⟩ | ⟨k,p,n,rfl⟩
  ·exact hq.elim
  ·exact hq.elim
  ·exact hq.elim
 ·exact fun _ _ h=>h.elim
end
section
variable {P:Program} {o:Oper} {cx:Ctx} {vl:Nat→Value} {fp:Nat→Nat→Prop} {G:Nat→Prop} {w:World} {a:Act} {ds:List (Option Nat)} {tr:List Nat} {Q:Exit→Act→World→Prop}
def newR2 (A:Nat→Prop) (w w':World) (F1 F2:Nat→Prop) (b:Nat):Prop:=A b∨(w.heap.size≤b∧b<w'.heap.size∧¬ F1 b∧¬ F2 b)
theorem io_run {f:FuncId} {xs:List X} (hk:isK P ds tr o (.calle f xs)=true) {as:List Operand} (hop:∃ f',opCall o.op=some (f',as)) {v0:Value} {rest:List Value} (has:as.map a.eval=v0::rest) {F A:Nat→Prop} {X0 Y0 res:D} {dl:List D}
  (hR:Ret P f (.io X0 Y0::dl.map .v) res) (hgA:GOk w A) (hA:∀ b,A b→b<w.heap.size) (h0:ContOk w A (fun _ _=>False) v0 F X0) (hrl:rest.length=dl.length) (hrest:∀ (j:Nat) (d:D),dl[j]?=some d→Rd w A (rest.getD j undef) d)
  (hF:∀ b,F b→b<w.heap.size∧¬ A b) {K:Act→World→Prop}
  (hK:∀ (v:Value) (w':World) (F1 F2:Nat→Prop),w.heap.size≤w'.heap.size→Own w' (newR2 A w w' F1 F2) v res F1→ContOk w' (newR2 A w w' F1 F2) (fun _ _=>False) v0 F2 Y0 →
    (∀ b,F1 b→b<w'.heap.size∧(w.heap.size≤b∨F b)∧¬ F2 b)→(∀ b,F2 b→b<w'.heap.size∧(w.heap.size≤b∨F b))→(∀ b,b<w.heap.size→¬ F b→w'.heap[b]?=w.heap[b]?) →
    w'.os=w.os→w'.tape=w.tape→w'.output=w.output→K (a.put o.dst v) w'):o.wp P a w K Q:=by
 simp only [isK] at hk
 split at hk<;>try (cases hk;done)
 rename_i f' as' hop'
 obtain ⟨f'',hop⟩:=hop
 rw [hop] at hop'
 simp only [Option.some.injEq,Prod.mk.injEq] at hop'
 obtain ⟨rfl,rfl⟩:=hop'
 obtain ⟨ts,ho⟩:=opCall_s hop
 simp only [Bool.and_eq_true,beq_iff_eq] at hk
 obtain ⟨⟨rfl,hk1⟩,hk2⟩:=hk
 unfold Oper.wp
 rw [call_run ho hk2,Oper.upon_enter,has]
 refine (hR w A _ (fun j b=>j=0∧F b) hgA hA (by simp [hrl]) (fun j x hj=>?_) (fun i j b hij hi hj=>hij (hi.1.trans hj.1.symm)) (fun j b hb=>⟨(hF b hb.2).1,(hF b hb.2).2,by rw [hb.1];simp⟩)).mono ?_
 ·cases j with
  | zero =>
   simp only [List.getElem?_cons_zero,Option.some.injEq] at hj
   subst hj
   exact h0.mono (Q:=fun _=>True) (fun _ h=>h) (fun _ _=>rfl) (fun _ _=>rfl) (fun b hb=>⟨rfl,hb⟩) (refs_all (fun _=>trivial) _) fun _ _ _ h=>h
  | succ j =>
   simp only [List.getElem?_cons_succ,List.getElem?_map,Option.map_eq_some_iff] at hj
   obtain ⟨d,hj,rfl⟩:=hj
   refine ⟨?_,fun b hb=>by cases hb.1⟩
   have:=hrest j d hj
   simpa using this
 ·rintro e w' ⟨v,F1,Fs',rfl,hsz,hown,hpost,hF1,hFs',_,hsame,hos,htape,hout⟩
  have h2:=hpost 0 _ rfl
  have hsub:∀ b,(A b∨(w.heap.size≤b∧b<w'.heap.size∧¬ F1 b∧∀ j,¬ Fs' j b))→newR2 A w w' F1 (Fs' 0) b:=fun b hb=>hb.imp id fun hh=>⟨hh.1,hh.2.1,hh.2.2.1,hh.2.2.2 0⟩
  have e0:(v0::rest).toArray.getD 0 undef=v0:=rfl
  rw [e0] at h2
  refine hK v w' F1 (Fs' 0) hsz (hown.mono hsub (fun _ _=>rfl) (fun _ _=>rfl) fun _ h=>h) ((show ContOk _ _ _ _ _ _ from h2).mono (Q:=fun _=>True) hsub (fun _ _=>rfl) (fun _ _=>rfl) (fun _ h=>h) (refs_all (fun _=>trivial) _) fun _ _ _ h=>h)
   (fun b hb=>⟨(hF1 b hb).1,(hF1 b hb).2.1.imp id fun ⟨_,h⟩=>h.2,(hF1 b hb).2.2 0⟩) (fun b hb=>⟨(hFs' 0 b hb).1,(hFs' 0 b hb).2.1.imp id fun ⟨_,h⟩=>h.2⟩) (fun b hb hn=>hsame b hb fun j h=>hn h.2) hos htape hout
theorem Hp.swap {ct:Nat→D} (h:Hp cx ct vl fp G w) {k:Nat} {c':D} {F' G':Nat→Prop} {w':World} (Q:D→Prop) (hobj:c'.isObj=true)
  (hc:ContOk w' (newR2 (stab cx fp G w) w w' G' F') (fun _ _=>False) (vl k) F' c') (hrefs:∀ j,j≠k→(ct j).refs Q)
  (hF:∀ b,F' b→b<w'.heap.size∧(w.heap.size≤b∨fp k b)) (hG:∀ b,G' b→b<w'.heap.size∧(w.heap.size≤b∨fp k b)) (hFG:∀ b,G' b→¬ F' b)
  (hsz:w.heap.size≤w'.heap.size) (hw:∀ b,b<w.heap.size→¬ fp k b→w'.heap[b]?=w.heap[b]?) (hos:w'.os=w.os) (htape:w'.tape=w.tape) (hout:w'.output=w.output)
  (hsub:∀ p,Q (.sub k p)→(ct k).hasS p→c'.hasS p∧valAt w' (vl k) c' p=valAt w (vl k) (ct k) p)
  (hadr:∀ p,Q (.adr k p)→(ct k).hasC p→c'.hasC p∧adrAt w' (vl k) c' p=adrAt w (vl k) (ct k) p) :
  Hp cx (upd ct k c') vl (upd fp k F') G' w'∧∀ b,newR2 (stab cx fp G w) w w' G' F' b→stab cx (upd fp k F') G' w' b:=by
 have hst:∀ b,newR2 (stab cx fp G w) w w' G' F' b→stab cx (upd fp k F') G' w' b:=by
  rintro b (⟨h1,h2,h3⟩ | ⟨h1,h2,h3,h4⟩)
  ·refine ⟨⟨by have:=h1.1;omega,h1.2⟩,fun hg=>(hG b hg).2.elim (fun hh=>by have:=h1.1;omega) (h3 k),fun j hj=>?_⟩
   by_cases hjk:j=k
   ·subst hjk;rw [upd_same] at hj;exact (hF b hj).2.elim (fun hh=>by have:=h1.1;omega) (h3 _)
   ·rw [upd_ne _ _ hjk] at hj;exact h3 j hj
  ·refine ⟨⟨h2,fun hh=>by have:=h.size;omega⟩,h3,fun j hj=>?_⟩
   by_cases hjk:j=k
   ·subst hjk;rw [upd_same] at hj;exact h4 hj
   ·rw [upd_ne _ _ hjk] at hj;have:=(h.lt j b hj).1;omega
 have hkeep:∀ d,Q d→keepR w w' ct (upd ct k c') vl vl d:=by
  intro d hd
  cases d<;>try trivial
  case sub j p =>
   intro (hp:(ct j).hasS p)
   by_cases hjk:j=k
   ·subst hjk
    simp only [upd_same]
    exact hsub p hd hp
   ·simp only [upd_ne _ _ hjk]
    exact ⟨hp,(valAt_cont (h.ok j) hp.1 fun b hb=>hw b (h.lt j b hb).1 (h.dis j k hjk b hb)).1⟩
  case adr j p =>
   intro hp
   by_cases hjk:j=k
   ·subst hjk
    simp only [upd_same]
    exact hadr p hd hp
   ·simp only [upd_ne _ _ hjk]
    exact ⟨hp,(valAt_cont (h.ok j) hp fun b hb=>hw b (h.lt j b hb).1 (h.dis j k hjk b hb)).2⟩
 have own0:∀ b,(w.heap.size≤b∨fp k b)→(cx.F0 b∨cx.w0.heap.size≤b):=fun b hb=>hb.elim (fun hh=>.inr (by have:=h.size;omega)) fun hh=>(h.lt k b hh).2
 refine ⟨⟨fun j=>?_,fun i j hij b hi hj=>?_,fun j b hj hg=>?_,fun j hj b hb=>?_,fun j b hj=>?_,fun b hb=>⟨(hG b hb).1,own0 b (hG b hb).2⟩,Nat.le_trans h.size hsz,fun b hb hb0=>?_,hos.trans h.os,htape.trans h.tape,hout.trans h.output⟩,hst⟩
 ·by_cases hjk:j=k
  ·subst hjk
   simp only [upd_same]
   exact hc.mono (Q:=fun _=>True) hst (fun _ _=>rfl) (fun _ _=>rfl) (fun _ h=>h) (refs_all (fun _=>trivial) _) fun v d _ hr=>hr.elim
  ·simp only [upd_ne _ _ hjk]
   exact (h.ok j).mono (Q:=Q) (fun b hb=>hst b (.inl hb)) (fun b hb=>hw b hb.1.1 (hb.2.2 k)) (fun b hb=>hw b (h.lt j b hb).1 (h.dis j k hjk b hb)) (fun _ h=>h) (hrefs j hjk) fun v d hq hr=>hr.keep (refs_mono hkeep hq)
 ·by_cases h1:i=k<;>by_cases h2:j=k
  ·omega
  ·subst h1;rw [upd_same] at hi;rw [upd_ne _ _ h2] at hj;exact (hF b hi).2.elim (fun hh=>by have:=(h.lt j b hj).1;omega) (h.dis j i (Ne.symm hij) b hj)
  ·subst h2;rw [upd_same] at hj;rw [upd_ne _ _ h1] at hi;exact (hF b hj).2.elim (fun hh=>by have:=(h.lt i b hi).1;omega) (h.dis i j hij b hi)
  ·rw [upd_ne _ _ h1] at hi;rw [upd_ne _ _ h2] at hj;exact h.dis i j hij b hi hj
 ·by_cases hjk:j=k
  ·subst hjk;rw [upd_same] at hj;exact hFG b hg hj
  ·rw [upd_ne _ _ hjk] at hj;exact (hG b hg).2.elim (fun hh=>by have:=(h.lt j b hj).1;omega) (h.dis j k hjk b hj)
 ·by_cases hjk:j=k
  ·subst hjk;rw [upd_same] at hj;rw [hobj] at hj;cases hj
  ·rw [upd_ne _ _ hjk] at hj hb;exact h.emp j hj b hb
 ·by_cases hjk:j=k
  ·subst hjk;rw [upd_same] at hj;exact ⟨(hF b hj).1,own0 b (hF b hj).2⟩
  ·rw [upd_ne _ _ hjk] at hj;exact ⟨by have:=(h.lt j b hj).1;omega,(h.lt j b hj).2⟩
 ·have hlt:b<w.heap.size:=by have:=h.size;omega
  rw [hw b hlt fun hk=>((h.lt k b hk).2).elim hb0 fun hh=>by omega]
  exact h.same b hb hb0
theorem push_res {st:St} (h:Hp cx st.cont vl fp G w) (hw:st.wf) {v:Value} {res:D} {F:Nat→Prop} (ho:Own w (stab cx fp G w) v res F) (hF:∀ b,F b→G b) :
  (∃ fp' G',Hp cx (st.push (contOf res)).cont (upd vl (1000+st.n) v) fp' G' w)∧(st.push (contOf res)).wf∧(st.push (contOf res)).n=st.n+1∧∀ i,i<1000→st.cont i=.dead→(st.push (contOf res)).cont i=.dead:=by
 have hd:st.cont (1000+st.n)=.dead:=St.cont_out (by simp only [St.in,not_or,not_and];omega)
 refine ⟨?_,St.wf_push hw _,rfl,fun i hi hd=>by rw [St.cont_push hw,upd_ne _ _ (by omega)];exact hd⟩
 rw [St.cont_push hw]
 obtain ⟨h1,h2⟩:=contOf_ok (R:=RefOk w st.cont vl) ho
 by_cases hob:(contOf res).isObj=true
 ·exact ⟨_,fun _=>False,h.put (by rw [hd];rfl) h1 hF (fun _ h=>h.elim) (fun _ _ h=>h) (fun hh=>by rw [hob] at hh;cases hh)⟩
 ·exact ⟨_,fun _=>False,h.put (by rw [hd];rfl) (h2 (by simpa using hob)) (fun _ h=>h.elim) (fun _ h=>h.elim) (fun _ h=>h.elim) (fun _ _ h=>h)⟩
theorem fillL_sound:∀ (l ys:List D) {K:St→Prop} {st:St} {fp:Nat→Nat→Prop} {A:Nat→Prop} {vs:Nat→Value} {F1:Nat→Prop} {Fs:Nat→Nat→Prop},fillL l ys K st→Hp cx st.cont vl fp (fun b=>F1 b∨∃ j,Fs j b) w→st.wf →
  (∀ (j k:Nat) (s:Nat×Nat) (p:Path),l[j]?=some (.sub k (s::p))→RefOk w st.cont vl (vs j) (.sub k (s::p)))→(∀ (j:Nat) (y:D),ys[j]?=some y→Own w A (vs j) y (Fs j))→(∀ b,A b→stab cx fp (fun b=>F1 b∨∃ j,Fs j b) w b) →
  (∀ i j b,i≠j→Fs i b→¬ Fs j b)→(∀ j b,Fs j b→¬ F1 b) →
  ∃ st' fp',K st'∧Hp cx st'.cont vl fp' F1 w∧(∀ b,A b→stab cx fp' F1 w b)∧st'.wf∧st'.n=st.n∧∀ i,st.cont i=.dead→st'.cont i=.dead
 | [],[],K,st,fp,A,vs,F1,Fs,hK,h,hw,_,_,hA,_,_=>⟨st,fp,hK,h.release fun b hb=>.inl hb,fun b hb=>⟨(hA b hb).1,fun hg=>(hA b hb).2.1 (.inl hg),(hA b hb).2.2⟩,hw,rfl,fun _ h=>h⟩
 | [],_::_,_,_,_,_,_,_,_,hK,_,_,_,_,_,_,_=>hK.elim
 | _::_,[],_,_,_,_,_,_,_,hK,_,_,_,_,_,_,_=>hK.elim
 | x::r,y::ys,K,st,fp,A,vs,F1,Fs,hK,h,hw,hl,hy,hA,hdis,hF1=>by
  simp only [fillL] at hK
  have skip:fillL r ys K st→∃ st' fp',K st'∧Hp cx st'.cont vl fp' F1 w∧(∀ b,A b→stab cx fp' F1 w b)∧st'.wf∧st'.n=st.n∧∀ i,st.cont i=.dead→st'.cont i=.dead:=by
   intro hK
   have hsub:∀ b,(F1 b∨∃ j,Fs (j+1) b)→F1 b∨∃ j,Fs j b:=fun b hb=>hb.imp id fun ⟨j,hj⟩=>⟨_,hj⟩
   exact fillL_sound r ys (vs:=fun j=>vs (j+1)) (Fs:=fun j=>Fs (j+1)) hK (h.release hsub) hw (fun j k s p hj=>hl (j+1) k s p (by simpa using hj)) (fun j y hj=>hy (j+1) y (by simpa using hj))
    (fun b hb=>⟨(hA b hb).1,fun hg=>(hA b hb).2.1 (hsub b hg),(hA b hb).2.2⟩) (fun i j b hij=>hdis _ _ b (by omega)) (fun j b=>hF1 _ b)
  unfold fill1 at hK
  split at hK
  ·rename_i k s p
   obtain ⟨hag,hrr,hK⟩:=hK
   have hne:s::p≠[]:=by simp
   obtain ⟨hs,hv,-⟩:=hl 0 k s p rfl
   generalize hP:s::p=p0 at hK hs hv hne hrr
   have hin:st.in k:=by
    by_cases hin:st.in k
    ·exact hin
    ·rw [St.cont_out hin] at hs;exact hs.1.elim
   have h1:=h.kill (qDeep k p0)
   obtain ⟨kd,ks⟩:=kill_dat (qDeep k p0) hs hne
   have hkv:=(kill_keep (w:=w) (qDeep k p0) (st.cont k) (vl k) p0 hs.1).2.1
   have hsub:∀ b,(F1 b∨∃ j,Fs (j+1) b)→F1 b∨∃ j,Fs j b:=fun b hb=>hb.imp id fun ⟨j,hj⟩=>⟨_,hj⟩
   obtain ⟨h2,h3⟩:=h1.fill (G':=fun b=>F1 b∨∃ j,Fs (j+1) b) ks hne (hkv.trans hv) ((hy 0 y rfl).mono hA (fun _ _=>rfl) (fun _ _=>rfl) fun _ h=>h) hag (fun b hb=>.inr ⟨0,hb⟩) hsub
    (fun b hb hg=>hg.elim (hF1 0 b hb) fun ⟨j,hj⟩=>hdis 0 (j+1) b (by omega) hb hj) (fun j=>kill_refs (qDeep k p0) (st.cont j))
   have ec:((st.kill (qDeep k p0)).put k (((st.kill (qDeep k p0)).cont k).fillC p0 y)).cont=upd (fun j=>(st.cont j).kill (qDeep k p0)) k (((st.cont k).kill (qDeep k p0)).setAt p0 (if cellLvl ((st.cont k).kill (qDeep k p0)) p0=true then .o y else y)):=by
    rw [St.cont_put_in (St.wf_kill hw _) (by simpa [St.in,St.kill,killL_length] using hin),St.cont_kill]
    rfl
   rw [← ec] at h2 h3
   obtain ⟨st',fp',r1,r2,r3,r4,r5,r6⟩:=fillL_sound r ys (vs:=fun j=>vs (j+1)) (Fs:=fun j=>Fs (j+1)) hK h2 (St.wf_put (St.wf_kill hw _) _ _)
    (fun j k' s' p' hj=>by
      have hr:=hl (j+1) k' s' p' (by simpa using hj)
      refine hr.keep (show keepR _ _ _ _ _ _ _ from (keep_kill st.cont (qDeep k p0) _).trans (h3 _ ?_))
      have:=refsL_iff.1 hrr _ (List.mem_of_getElem? hj)
      exact this)
    (fun j y hj=>hy (j+1) y (by simpa using hj))
    (fun b hb=>by
      refine ⟨(hA b hb).1,fun hg=>(hA b hb).2.1 (hsub b hg),fun j hj=>?_⟩
      by_cases hjk:j=k
      ·subst hjk;rw [upd_same] at hj;exact hj.elim ((hA b hb).2.2 _) fun hh=>(hA b hb).2.1 (.inr ⟨0,hh⟩)
      ·rw [upd_ne _ _ hjk] at hj;exact (hA b hb).2.2 j hj)
    (fun i j b hij=>hdis _ _ b (by omega)) (fun j b=>hF1 _ b)
   refine ⟨st',fp',r1,r2,r3,r4,by rw [r5,St.n_put];rfl,fun i hi=>r6 i ?_⟩
   rw [ec]
   have hik:i≠k:=by rintro rfl;rw [hi] at hs;exact hs.1.elim
   rw [upd_ne _ _ hik,hi];rfl
  ·exact skip hK
theorem apart_symm:∀ (p q:Path),apart p q=apart q p
 | [],[]=>rfl
 | [],_::_=>rfl
 | _::_,[]=>rfl
 | s::p,t::q=>by
  simp only [apart]
  by_cases h:s=t
  ·rw [if_pos h,if_pos h.symm];exact apart_symm p q
  ·rw [if_neg h,if_neg (Ne.symm h)]
theorem absL_apart:∀ (l:List D) {K:List D→St→Prop} {st:St},absL l K st→∀ (i j:Nat) (x y:D),i<j→l[i]?=some x→l[j]?=some y→x.refs fun s=>match s with | .sub k p=>y.refs (apartR k p) | _=>True
 | [],K,st,_,i,j,x,y,_,hi,_=>by simp at hi
 | z::r,K,st,h,i,j,x,y,hij,hi,hj=>by
  simp only [absL] at h
  cases j with
  | zero=>omega
  | succ j =>
   cases i with
   | zero =>
    simp at hi
    subst hi
    refine refs_mono (fun s hs=>?_) h.1
    cases s<;>first | trivial | exact refsL_iff.1 hs y (List.mem_of_getElem? (by simpa using hj))
   | succ i =>
    obtain ⟨x',st',h'⟩:=absK_some z h.2
    exact absL_apart r h' i j x y (by omega) (by simpa using hi) (by simpa using hj)
theorem absL_self {l:List D} {K:List D→St→Prop} {st:St} (h:absL l K st) {i k:Nat} {s:Nat×Nat} {p:Path} (hi:l[i]?=some (.sub k (s::p))):refsL (fun t=>keepS t (.sub k (s::p))) l:=by
 refine refsL_iff.2 fun y hy=>?_
 obtain ⟨j,hj,rfl⟩:=List.getElem_of_mem hy
 have hj':l[j]?=some l[j]:=List.getElem?_eq_getElem hj
 rcases Nat.lt_trichotomy i j with hij | hij | hij
 ·have h1:=absL_apart l h i j _ _ hij hi hj'
  have h1:(l[j]).refs (apartR k (s::p)):=h1
  refine refs_mono (fun t ht=>?_) h1
  cases t<;>try trivial
  rename_i k' p'
  refine .inl ?_
  rcases ht with ht | ht
  ·exact .inl (Ne.symm ht)
  ·exact .inr (by rw [apart_symm];exact ht)
 ·subst hij
  rw [hi] at hj'
  injection hj' with hj'
  rw [← hj']
  refine .inr ⟨by simp,?_⟩
  have gt:∀ p:Path,gtL p p=false:=by
   intro p
   induction p with
   | nil=>rfl
   | cons _ p ih=>exact ih
  simp only [qDeep,gt,Bool.and_false]
 ·have h1:=absL_apart l h j i _ _ hij hj' hi
  refine refs_mono (fun t ht=>?_) h1
  cases t<;>try trivial
  exact .inl ht
theorem plainL_mem {rd:X→D}:∀ {xs:List X},plainL rd xs→∀ y∈xs,(rd y).core.refs noRef
 | [],_,y,hy=>by cases hy
 | x::r,h,y,hy=>by
  rcases List.mem_cons.1 hy with rfl | hy
  ·exact h.1
  ·exact plainL_mem h.2 y hy
theorem kill_bare {q:D→Bool} (c:D) (h:c.refs noRef):c.kill q=c:=by
 have list:∀ l:List D,(∀ x∈l,x.refs noRef→x.kill q=x)→refsL noRef l→killL q l=l:=by
  intro l ih hl
  rw [killL_map]
  conv=>rhs;rw [← List.map_id l]
  exact List.map_congr_left fun x hx=>ih x hx (refsL_iff.1 hl x hx)
 induction c using D.ind with
 | sub k p=>exact h.elim
 | adr k p=>exact h.elim
 | pre k p n=>exact h.elim
 | agg l ih | tup l ih | box l ih | fn _ l ih=>simp only [D.kill];rw [list l ih h]
 | row z l _ ih=>simp only [D.kill];rw [list l ih h]
 | when g x ih=>simp only [D.kill];rw [ih h]
 | _=>rfl
theorem parts_end {st st1:St} {fp1:Nat→Nat→Prop} {G1 F:Nat→Prop} (h2:Tk cx w vl st fp G st1 fp1 G1 F) {l ys:List D} {vs:Nat→Value} {K:St→Prop} {res:D} {v:Value} {w':World} {F1 F2:Nat→Prop} {Fs2:Nat→Nat→Prop}
  (hK:fillL l ys (fun st=>K (st.push (contOf res))) st1)
  (href:∀ (j k:Nat) (s:Nat×Nat) (p:Path),l[j]?=some (.sub k (s::p))→RefOk w st1.cont vl (vs j) (.sub k (s::p)))
  (hsz:w.heap.size≤w'.heap.size) (hown:Own w' (newR2 (stab cx fp1 G1 w) w w' F1 F2) v res F1) (hy:∀ (j:Nat) (y:D),ys[j]?=some y→Own w' (newR2 (stab cx fp1 G1 w) w w' F1 F2) (vs j) y (Fs2 j))
  (hFs:∀ j b,Fs2 j b→F2 b) (hdis:∀ i j b,i≠j→Fs2 i b→¬ Fs2 j b) (hF1:∀ b,F1 b→b<w'.heap.size∧(w.heap.size≤b∨F b)∧¬ F2 b) (hF2:∀ b,F2 b→b<w'.heap.size∧(w.heap.size≤b∨F b))
  (hsame:∀ b,b<w.heap.size→¬ F b→w'.heap[b]?=w.heap[b]?) (hos:w'.os=w.os) (htape:w'.tape=w.tape) (hout:w'.output=w.output) :
  ∃ st',K st'∧(∃ fp' G',Hp cx st'.cont (upd vl (1000+st.n) v) fp' G' w')∧st'.wf∧st'.n=st.n+1∧∀ i,i<1000→st.cont i=.dead→st'.cont i=.dead:=by
 have h3:=h2.hp.mut hsz (fun b hb hg=>hsame b hb fun hf=>hg (h2.hF b hf).1) hos htape hout
 have hin:∀ b,(F1 b∨∃ j,Fs2 j b)→b<w'.heap.size∧(w.heap.size≤b∨F b):=fun b hb=>hb.elim (fun hh=>⟨(hF1 b hh).1,(hF1 b hh).2.1⟩) fun ⟨j,hj⟩=>hF2 b (hFs j b hj)
 have h4:=h3.release (G':=fun b=>F1 b∨∃ j,Fs2 j b) fun b hb=>(hin b hb).2.elim (fun hh=>.inr ⟨hh,(hin b hb).1⟩) fun hh=>.inl (h2.hF b hh).1
 obtain ⟨st',fp',r1,r2,r3,r4,r5,r6⟩:=fillL_sound l ys (vs:=vs) (A:=newR2 (stab cx fp1 G1 w) w w' F1 F2) (F1:=F1) (Fs:=Fs2) hK h4 h2.wf
  (fun j k s p hj=>(href j k s p hj).keep (show keepR _ _ _ _ _ _ _ from fun hp=>⟨hp,(valAt_cont (h2.hp.ok k) hp.1 fun b hb=>hsame b (h2.hp.lt k b hb).1 fun hf=>h2.hp.disG k b hb (h2.hF b hf).1).1⟩))
  hy (fun b hb=>by
   rcases hb with ⟨q1,q2,q3⟩ | ⟨q1,q2,q3,q4⟩
   ·exact ⟨⟨by have:=q1.1;omega,q1.2⟩,fun hg=>(hin b hg).2.elim (fun hh=>by have:=q1.1;omega) fun hh=>q2 (h2.hF b hh).1,q3⟩
   ·exact ⟨⟨q2,fun hh=>by have:=h2.hp.size;omega⟩,fun hg=>hg.elim q3 fun ⟨j,hj⟩=>q4 (hFs j b hj),fun j hj=>by have:=(h2.hp.lt j b hj).1;omega⟩)
  hdis (fun j b hj hf=>(hF1 b hf).2.2 (hFs j b hj))
 obtain ⟨k1,k2,k3,k4⟩:=push_res r2 r4 (hown.mono r3 (fun _ _=>rfl) (fun _ _=>rfl) fun _ h=>h) (fun _ h=>h)
 rw [r5,h2.n] at k1 k3
 exact ⟨_,r1,k1,k2,k3,fun i hi hd=>k4 i hi (r6 i (h2.dd i hd))⟩
theorem io_sound {st:St} (h:Hp cx st.cont vl fp G w) (hw:st.wf) {f:FuncId} {x0:X} {r:List X} (hk:isK P ds tr o (.calle f (x0::r))=true)
  (hx:∀ y,y∈x0::r→∀ x,isX ds tr x y=true→PlG w (stab cx fp G w) (RefOk w st.cont vl) (a.eval x) (st.rd y)) {g:Option Bool} {K:St→Prop}
  (hv:@ioVC P f (st.rd x0).core (gathL st.cont st.rd r) (gates st.rd (x0::r)) (plainL st.rd r) g ⟨K⟩ st) {K':Act→World→Prop}
  (hK':∀ (v:Value) (w':World) (st':St),K st'→(∃ fp' G',Hp cx st'.cont (upd vl (1000+st.n) v) fp' G' w')→st'.wf→st'.n=st.n+1→(∀ i,i<1000→st.cont i=.dead→st'.cont i=.dead)→K' (a.put o.dst v) w'):o.wp P a w K' Q:=by
 obtain ⟨-,hgt,hpl,dl,hdl,hv⟩:=hv
 have hk0:=hk
 simp only [isK] at hk
 split at hk<;>try (cases hk;done)
 rename_i f' as hop
 simp only [Bool.and_eq_true,beq_iff_eq] at hk
 obtain ⟨⟨rfl,hk1⟩,hk2⟩:=hk
 cases as with
 | nil=>simp [isXs] at hk1
 | cons x ar =>
 simp only [isXs,Bool.and_eq_true] at hk1
 simp only [gates,Bool.and_eq_true] at hgt
 have hp0:=(hx x0 (by simp) x hk1.1).1 hgt.1
 obtain ⟨hal,har⟩:=args_ok (a:=a) (A':=stab cx fp G w) hk1.2 (fun y hy=>hx y (by simp [hy])) (fun y hy v x hv hg=>gath_plain 4 hv (plainL_mem hpl y hy) hg) hdl hgt.2
 have hop':∃ f',opCall o.op=some (f',x::ar):=⟨_,hop⟩
 have has:(x::ar).map a.eval=a.eval x::ar.map a.eval:=rfl
 have hrl:(ar.map a.eval).length=dl.length:=by rw [List.length_map];exact hal
 have hrest:∀ (j:Nat) (d:D),dl[j]?=some d→Rd w (stab cx fp G w) ((ar.map a.eval).getD j undef) d:=har
 have whole:∀ (k:Nat) (c c' res:D) (q:D→Bool),st.cont k=c→vl k=a.eval x→c.isObj=true→c'.isObj=true→c.refs noRef→Ret P f (.io c c'::dl.map .v) res →
   (∀ p,q (.sub k p)=false→c.hasS p→c'.hasS p∧∀ w',valAt w' (vl k) c' p=valAt w (vl k) c p)→(∀ p,q (.adr k p)=false→c.hasC p→c'.hasC p∧∀ w',adrAt w' (vl k) c' p=adrAt w (vl k) c p) →
   K (((st.kill q).put k c').push (contOf res))→o.wp P a w K' Q:=by
  intro k c c' res q hc hvk hobj hobj' hcr hR hsub hadr hK
  have hok:=h.ok k
  rw [hc,hvk] at hok
  refine io_run hk0 hop' has (F:=fp k) (A:=stab cx fp G w) hR h.gl (fun b hb=>hb.1.1) (hok.bare hcr) hrl hrest (fun b hb=>⟨(h.lt k b hb).1,fun hs=>hs.2.2 k hb⟩) ?_
  intro v w' F1 F2 hsz hown hcont hF1 hF2 hsame hos htape hout
  have h1:=h.kill q
  have hin:st.in k:=by
   by_cases hin:st.in k
   ·exact hin
   ·rw [St.cont_out hin] at hc;subst hc;cases hobj
  rw [← hvk] at hcont
  obtain ⟨h2,h3⟩:=h1.swap (c':=c') (k:=k) (F':=F2) (G':=F1) (fun d=>q d=false) hobj' hcont (fun j _=>kill_refs q (st.cont j)) hF2 (fun b hb=>⟨(hF1 b hb).1,(hF1 b hb).2.1⟩) (fun b hb=>(hF1 b hb).2.2) hsz (fun b hb hn=>hsame b hb hn) hos htape hout
   (fun p hq hs=>by
     have hs:c.hasS p:=by have hh:((st.cont k).kill q).hasS p:=hs;rwa [hc,kill_bare c hcr] at hh
     obtain ⟨e1,e2⟩:=hsub p hq hs
     refine ⟨e1,?_⟩
     rw [e2]
     show _=valAt w (vl k) ((st.cont k).kill q) p
     rw [hc,kill_bare c hcr])
   (fun p hq hs=>by
     have hs:c.hasC p:=by have hh:((st.cont k).kill q).hasC p:=hs;rwa [hc,kill_bare c hcr] at hh
     obtain ⟨e1,e2⟩:=hadr p hq hs
     refine ⟨e1,?_⟩
     rw [e2]
     show _=adrAt w (vl k) ((st.cont k).kill q) p
     rw [hc,kill_bare c hcr])
  have ec:((st.kill q).put k c').cont=upd (fun j=>(st.cont j).kill q) k c':=by
   rw [St.cont_put_in (St.wf_kill hw _) (by simpa [St.in,St.kill,killL_length] using hin),St.cont_kill]
  rw [← ec] at h2
  obtain ⟨k1,k2,k3,k4⟩:=push_res h2 (St.wf_put (St.wf_kill hw _) _ _) (hown.mono h3 (fun _ _=>rfl) (fun _ _=>rfl) fun _ h=>h) (fun _ h=>h)
  have hn:((st.kill q).put k c').n=st.n:=by rw [St.n_put];rfl
  rw [hn] at k1 k3
  refine hK' v w' _ hK k1 k2 k3 fun i hi hd=>k4 i hi ?_
  rw [ec]
  have hik:i≠k:=by rintro rfl;rw [hd] at hc;subst hc;cases hobj
  rw [upd_ne _ _ hik,hd];rfl
 split at hv
 ·
  rename_i k heq
  rw [heq] at hp0
  obtain ⟨l,l',res,hc,hl,hl',hlen,hR,hK⟩:=hv
  obtain ⟨_,ad,had,hav⟩:=pl_adr hp0
  have hok:=h.ok k
  rw [hc] at hok had
  obtain ⟨_,b,cs,e,Fs,hvk,_⟩:=hok
  rw [hvk] at had
  simp only [adrAt,kidA,D.un,kidAT,Option.some.injEq,Nat.add_zero] at had
  refine whole k _ _ res _ hc (by rw [hvk,hav,← had]) rfl rfl hl hR (fun p hq hs=>?_) (fun p hq hs=>?_) hK
  ·have:=qSt_sub hq
   have:p=[]:=List.eq_nil_of_length_eq_zero (by simpa using this)
   subst this
   exact ⟨⟨trivial,fun hh=>by cases hh⟩,fun w'=>rfl⟩
  ·have hle:=qSt_adr hq
   cases p with
   | nil=>exact ⟨trivial,fun w'=>rfl⟩
   | cons t p =>
    have:p=[]:=List.eq_nil_of_length_eq_zero (by simpa using hle)
    subst this
    obtain ⟨i,off⟩:=t
    obtain ⟨q1,q2,_⟩:=hs
    exact ⟨⟨q1,by omega,trivial⟩,fun w'=>rfl⟩
 ·
  rename_i k heq
  rw [heq] at hp0
  obtain ⟨y0,y,res,hc,hR,hK⟩:=hv
  obtain ⟨_,hva,_⟩:=pl_sub hp0
  simp only [valAt,Option.some.injEq] at hva
  refine whole k _ _ res _ hc hva rfl rfl trivial hR (fun p hq hs=>?_) (fun p hq hs=>?_) hK
  ·have:=qDeep_sub hq
   have:p=[]:=List.eq_nil_of_length_eq_zero (by simpa using this)
   subst this
   exact ⟨⟨trivial,fun hh=>by cases hh⟩,fun w'=>rfl⟩
  ·have:=qDeep_adr hq
   have:p=[]:=List.eq_nil_of_length_eq_zero (by simpa using this)
   subst this
   exact ⟨trivial,fun w'=>rfl⟩
 ·
  rename_i k s p heq
  rw [heq] at hp0
  have hr0:=pl_sub hp0
  have hself:=fun i k s p hi=>absL_self hv (i:=i) (k:=k) (s:=s) (p:=p) hi
  obtain ⟨l',st1,fp1,G1,Fs,⟨y0,y,res,rfl,hR,hK⟩,h2,h3,h4,h5,h6⟩:=absL_sound (A:=stab cx fp G w) (vs:=#[a.eval x]) _ hv h hw (fun _ h=>h) (fun j y hj=>by
   cases j with
   | zero=>simp at hj;subst hj;exact hp0
   | succ j=>simp at hj)
  have ho:=(h4 0 y0 rfl).1
  refine io_run hk0 hop' has (F:=Fs 0) (A:=stab cx fp1 G1 w) hR h2.hp.gl (fun b hb=>hb.1.1) ho hrl (fun j d hj=>(hrest j d hj).mono h2.hst fun _ _=>rfl) (fun b hb=>⟨(h2.hp.ltG b (h2.hF b ⟨0,hb⟩).1).1,fun hs=>hs.2.1 (h2.hF b ⟨0,hb⟩).1⟩) ?_
  intro v w' F1 F2 hsz hown hcont hF1 hF2 hsame hos htape hout
  obtain ⟨st',k1,k2,k3,k4,k5⟩:=parts_end (vs:=fun _=>a.eval x) (Fs2:=fun j b=>j=0∧F2 b) h2 hK
   (fun j k' s' p' hj=>by
     cases j with
     | zero =>
      have hs:=hself 0 k' s' p' hj
      simp at hj
      obtain ⟨rfl,rfl,rfl⟩:=hj
      exact hr0.keep (h6 _ hs)
     | succ j=>simp at hj)
   hsz hown (fun j z hj=>by
    cases j with
    | zero=>simp at hj;subst hj;exact Own.mono (show Own w' _ (a.eval x) y F2 from hcont) (fun _ h=>h) (fun _ _=>rfl) (fun _ _=>rfl) fun b hb=>⟨rfl,hb⟩
    | succ j=>simp at hj)
   (fun j b hb=>hb.2) (fun i j b hij hi hj=>hij (hi.1.trans hj.1.symm)) (fun b hb=>⟨(hF1 b hb).1,(hF1 b hb).2.1.imp id fun hh=>⟨0,hh⟩,(hF1 b hb).2.2⟩) (fun b hb=>⟨(hF2 b hb).1,(hF2 b hb).2.imp id fun hh=>⟨0,hh⟩⟩) (fun b hb hn=>hsame b hb fun hh=>hn ⟨0,hh⟩) hos htape hout
  exact hK' v w' st' k1 k2 k3 k4 k5
 ·
  rename_i l heq
  rw [heq] at hp0
  obtain ⟨cs,hva,hcs,hcl⟩:=pl_agg hp0
  have hself:=fun i k s p hi=>absL_self hv (i:=i) (k:=k) (s:=s) (p:=p) hi
  obtain ⟨xs,st1,fp1,G1,Fs,⟨ys,res,hR,hK⟩,h2,h3,h4,h5,h6⟩:=absL_sound (A:=stab cx fp G w) (vs:=cs) _ hv h hw (fun _ h=>h) hcl
  have ho:Own w (stab cx fp1 G1 w) (a.eval x) (.agg xs) (fun b=>∃ j,Fs j b):=by
   rw [hva]
   exact .agg Fs (by rw [hcs,h3]) (fun j y hj=>(h4 j y hj).1) (fun j b hb=>⟨j,hb⟩) h5
  refine io_run hk0 hop' has (F:=fun b=>∃ j,Fs j b) (A:=stab cx fp1 G1 w) hR h2.hp.gl (fun b hb=>hb.1.1) ho hrl (fun j d hj=>(hrest j d hj).mono h2.hst fun _ _=>rfl) (fun b hb=>⟨(h2.hp.ltG b (h2.hF b hb).1).1,fun hs=>hs.2.1 (h2.hF b hb).1⟩) ?_
  intro v w' F1 F2 hsz hown hcont hF1 hF2 hsame hos htape hout
  have hcont:Own w' (newR2 (stab cx fp1 G1 w) w w' F1 F2) (a.eval x) (.agg ys) F2:=hcont
  rw [hva] at hcont
  cases hcont with
  | agg Fs2 hs2 hr2 hfs2 hd2 =>
  obtain ⟨st',k1,k2,k3,k4,k5⟩:=parts_end (vs:=fun j=>cs.getD j undef) (Fs2:=Fs2) h2 hK
   (fun j k' s' p' hj=>(pl_sub (hcl j _ hj)).keep (h6 _ (hself j k' s' p' hj)))
   hsz hown (fun j z hj=>hr2 j z hj) hfs2 hd2 hF1 hF2 hsame hos htape hout
  exact hK' v w' st' k1 k2 k3 k4 k5
 ·exact hv.elim
end
end Go.D3
