/- ONE OPERATION,in the order of the text. Generic. -/
import Derived.Test.YtgieggnpnepkfaaGreatDoorCallk
import Derived.Test.YtgieggnpnepkfaaGreatDoorApt
import Derived.Orders
namespace Go.D3
open Go
structure Fm (cx:Ctx) (nt:Nat) (tr pre:List Nat) (ds:List (Option Nat)) (st:St) (a:Act) (w:World):Prop where
 ex:∃ vl fp G,Hp cx st.cont vl fp G w∧(∀ (j t:Nat),tr[j]?=some t→pre.contains j=false→a.tmps.getD t undef=vl j)∧(∀ (i t:Nat),i<st.n→ds[i]?=some (some t)→a.tmps.getD t undef=vl (1000+i))∧∀ k,tr.length≤k→k<1000→vl k=cx.gv k
 wf:st.wf
 dd:∀ j,pre.contains j=true→st.cont j=.dead
 size:a.tmps.size=nt
 defers:a.defers=cx.dfs
structure Slots (nt:Nat) (tr pre:List Nat) (ds:List (Option Nat)):Prop where
 nodup:∀ (i i' t:Nat),ds[i]?=some (some t)→ds[i']?=some (some t)→i=i'
 apart:∀ (i t:Nat),ds[i]?=some (some t)→∀ (j:Nat),tr[j]?=some t→pre.contains j=true
 trinj:∀ (i i' t:Nat),tr[i]?=some t→tr[i']?=some t→i=i'
 trlt:∀ (i t:Nat),tr[i]?=some t→t<nt
 few:tr.length<500
 prelt:∀ j,pre.contains j=true→j<tr.length
section
variable {P:Program} {cx:Ctx} {nt:Nat} {tr pre:List Nat} {ds:List (Option Nat)} {st:St} {a:Act} {w:World} {o:Oper} {Q:Exit→Act→World→Prop} {vl:Nat→Value} {fp:Nat→Nat→Prop} {G:Nat→Prop}
theorem eqL_const {s:ByteArray} {l:List UInt8} (h:eqL s.data.toList l=true):Value.string s=.string ⟨l.toArray⟩:=by
 have:=eqL_eq h
 rw [← this,← data_mk]
theorem isX_ok (h:Hp cx st.cont vl fp G w) (htr:∀ (j t:Nat),tr[j]?=some t→pre.contains j=false→a.tmps.getD t undef=vl j) (htm:∀ (i t:Nat),i<st.n→ds[i]?=some (some t)→a.tmps.getD t undef=vl (1000+i))
  {x:Operand} {y:X} (hx:isX ds tr x y=true) (hi:∀ i,y=.t i→i<st.n) (hv:∀ j,y=.v j→pre.contains j=false):PlG w (stab cx fp G w) (RefOk w st.cont vl) (a.eval x) (st.rd y):=by
 have lit:∀ {v:Value} {d:D},Rd w (stab cx fp G w) v d→PlG w (stab cx fp G w) (RefOk w st.cont vl) v d:=fun hd=>Pl.plg (.rd hd) ref_when
 unfold isX at hx
 split at hx<;>try (cases hx;done)
 ·rename_i t i
  have:=htm i t (hi i rfl) (by simpa using hx)
  show PlG _ _ _ (a.tmps.getD t undef) (opv (1000+i) (st.cont (1000+i)))
  rw [this]
  exact opv_ok (h.ok _)
 ·rename_i t j
  have:=htr j t (by simpa using hx) (hv j rfl)
  show PlG _ _ _ (a.tmps.getD t undef) (opv j (st.cont j))
  rw [this]
  exact opv_ok (h.ok _)
 ·simp only [Bool.and_eq_true,decide_eq_true_eq] at hx
  obtain ⟨⟨rfl,rfl⟩,h1⟩:=hx
  exact lit (.int (okInt_has h1))
 ·simp only [Bool.and_eq_true,decide_eq_true_eq] at hx
  obtain ⟨⟨rfl,rfl⟩,h1⟩:=hx
  exact lit (.int (okInt_has h1))
 ·simp only [beq_iff_eq] at hx
  subst hx
  exact lit .bool
 ·simp only [Bool.and_eq_true,decide_eq_true_eq] at hx
  show PlG _ _ _ (Value.string _) _
  rw [eqL_const hx.1]
  exact lit (.str (by have:=hx.2;simp only [maxLen];omega))
 ·exact lit .nils
 ·exact lit .nilp
 ·simp only [beq_iff_eq] at hx
  subst hx
  exact lit (.fn rfl (fun j x hx=>by simp at hx))
 ·rename_i g g'
  simp only [Bool.and_eq_true,beq_iff_eq] at hx
  obtain ⟨hgg,hx⟩:=hx
  subst hgg
  obtain ⟨d,hd⟩:=Option.isSome_iff_exists.1 hx
  have:=h.gl.gl _ _ hd
  show PlG _ _ _ _ ((gl g).getD .dead)
  rw [hd]
  exact lit this
 ·exact lit .nifc
theorem Fm.put (hS:Slots nt tr pre ds) (h:Fm cx nt tr pre ds st a w) {s:SOp} (hd:ds[st.n]?=some (resDst o s)) (ha:s.k.asgTo=none) (hlt:∀ t,o.dst=some t→t<nt) {st':St} {w':World} {v:Value}
  (htr0:∀ (j t:Nat),tr[j]?=some t→pre.contains j=false→a.tmps.getD t undef=vl j) (htm0:∀ (i t:Nat),i<st.n→ds[i]?=some (some t)→a.tmps.getD t undef=vl (1000+i)) (hgh:∀ k,tr.length≤k→k<1000→vl k=cx.gv k)
  (hp:∃ fp' G',Hp cx st'.cont (upd vl (1000+st.n) v) fp' G' w') (hwf:st'.wf) (hn:st'.n=st.n+1) (hdd:∀ j,j<1000→st.cont j=.dead→st'.cont j=.dead):Fm cx nt tr pre ds st' (a.put o.dst v) w':=by
 obtain ⟨fp',G',hp⟩:=hp
 have hres:resDst o s=o.dst:=by simp [resDst,ha]
 rw [hres] at hd
 have hjlt:∀ j t,tr[j]?=some t→j<1000:=fun j t hj=>by have:=(List.getElem?_eq_some_iff.1 hj).1;have:=hS.few;omega
 refine ⟨⟨_,_,_,hp,fun j t hj hpre=>?_,fun i t hi hit=>?_,fun k h1 h2=>by rw [upd_ne _ _ (by omega)];exact hgh k h1 h2⟩,hwf,fun j hj=>hdd j (by have:=hS.prelt j hj;have:=hS.few;omega) (h.dd j hj),?_,?_⟩
 ·rw [upd_ne _ _ (by have:=hjlt j t hj;omega)]
  cases hod:o.dst with
  | none=>exact htr0 j t hj hpre
  | some d =>
   have hne:d≠t:=by
    rintro rfl
    rw [hod] at hd
    have:=hS.apart _ _ hd j hj
    rw [hpre] at this;cases this
   simp only [Act.put]
   rw [getD_set_ne _ hne]
   exact htr0 j t hj hpre
 ·by_cases hin:i=st.n
  ·subst hin
   rw [upd_same]
   rw [hd] at hit
   injection hit with hit
   rw [hit]
   simp only [Act.put]
   exact getD_set_eq _ (by rw [h.size];exact hlt t hit)
  ·rw [upd_ne _ _ (by omega)]
   have hi':i<st.n:=by omega
   cases hod:o.dst with
   | none=>exact htm0 i t hi' hit
   | some d =>
    have hne:d≠t:=by
     rintro rfl
     rw [hod] at hd
     exact hin (hS.nodup _ _ _ hit hd)
    simp only [Act.put]
    rw [getD_set_ne _ hne]
    exact htm0 i t hi' hit
 ·cases o.dst<;>simp [Act.put,h.size]
 ·cases o.dst<;>simp [Act.put,h.defers]
theorem push_plain (h:Hp cx st.cont vl fp G w) (hw:st.wf) {v:Value} {c:D} (hc:ContOk w (stab cx fp G w) (RefOk w st.cont vl) v (fun _=>False) c) :
  (∃ fp' G',Hp cx (st.push c).cont (upd vl (1000+st.n) v) fp' G' w)∧(st.push c).wf∧(st.push c).n=st.n+1∧∀ j,j<1000→st.cont j=.dead→(st.push c).cont j=.dead:=by
 have hd:st.cont (1000+st.n)=.dead:=St.cont_out (by simp only [St.in,not_or,not_and];omega)
 refine ⟨⟨upd fp (1000+st.n) fun _=>False,G,?_⟩,St.wf_push hw _,rfl,fun i hi hd=>by rw [St.cont_push hw,upd_ne _ _ (by omega)];exact hd⟩
 rw [St.cont_push hw]
 exact h.put (by rw [hd];rfl) (F:=fun _=>False) hc (fun _ h=>h.elim) (fun _ h=>h) (fun _ h=>h.elim) (fun _ _ h=>h)
theorem whG_ok {A:Nat→Prop} {R:Value→D→Prop} {v:Value} {d:D} (h:Pl w A R v d) (hd:d.okc=true) {g:Option Bool} (hg:g≠some false):ContOk w A R v (fun _=>False) (whG g d):=by
 cases g with
 | none=>cases d<;>first | exact h | cases hd
 | some b=>cases b with
  | false=>exact absurd rfl hg
  | true=>exact show ContOk w A R v (fun _=>False) (.when true d) from ⟨fun _=>h,fun h=>absurd h (by simp)⟩
theorem when_false {A:Nat→Prop} {R:Value→D→Prop} {d:D}:ContOk w A R undef (fun _=>False) (.when false d) :=
 show (false=true→Pl w A R undef d)∧(false=false→undef=undef) from ⟨fun h=>absurd h (by simp),fun _=>rfl⟩
theorem wp_of_value {K:Act→World→Prop} {v:Value} {w':World} (hrun:(execOp a.eval o).run P w=.ok (.value v) w') (h:K (a.put o.dst v) w'):o.wp P a w K Q:=by
 unfold Oper.wp
 rw [hrun,Oper.upon_value]
 exact h
theorem wp_of_skip {K:Act→World→Prop} {w':World} (hrun:(execOp a.eval o).run P w=.ok .skip w') (h:K (a.put o.dst undef) w'):o.wp P a w K Q:=by
 unfold Oper.wp
 rw [hrun,Oper.upon_skip]
 exact h
theorem run_st {t:TypeId} {x y:Operand} (ho:o.op=.store t x y) {n:Nat} (hn:sizeT P t n=true) {b off:Nat} (hx:a.eval x=.pointer (some ⟨b,off,none⟩)) (hv:(a.eval y).cells.size=n)
  (hc:∀ i,i<n→(w.cell? ⟨b,off+i,none⟩).isSome=true∧w.frozen? ⟨b,off+i,none⟩=false) (h1:∀ v∈(a.eval y).cells.toList,v.oneCell'=true) :
  (execOp a.eval o).run P w=.ok .skip (w.setCells b off (a.eval y).cells.toList):=by
 have hst:=run_storeCells_cells (P:=P) b off (a.eval y).cells.toList 0 w
  (fun j hj=>by simp at hj;exact (hc j (by omega)).1)
  (fun j hj=>by simp at hj;exact (hc j (by omega)).2) h1
 simp only [Nat.add_zero] at hst
 simp only [execOp,ho,Instr.storeAt,Instr.sureAddr,storeVar,hx,Sem.run_bind,Sem.run_pure,Result.andThen_ok,sizeOf_run hn,hv]
 simp [hst]
theorem reads_of {k:Kp} {i:Nat} (h:X.t i∈k.xs):i∈k.reads:=by
 have one:∀ {x:X},X.t i=x→i∈readsX x:=by rintro x rfl;simp [readsX]
 have opt:∀ {x:Option X},X.t i∈x.toList→i∈readsXo x:=by
  intro x hx
  cases x with
  | none=>simp at hx
  | some x=>simp at hx;exact one hx
 cases k<;>simp only [Kp.xs,List.mem_cons,List.mem_append,List.not_mem_nil,or_false,List.mem_map,List.mem_flatMap,Kp.reads] at h ⊢
 case slS x lo hi=>exact h.elim (fun h=>.inl (h.elim (fun h=>.inl (one h)) fun h=>.inr (opt h))) fun h=>.inr (opt h)
 case sl x lo hi=>exact h.elim (fun h=>.inl (h.elim (fun h=>.inl (one h)) fun h=>.inr (opt h))) fun h=>.inr (opt h)
 all_goals first
  | exact one h
  | exact h.elim (fun h=>.inl (one h)) fun h=>.inr (one h)
  | exact h.elim (fun h=>.inl (.inl (one h))) fun h=>h.elim (fun h=>.inl (.inr (one h))) fun h=>.inr (one h)
  | exact ⟨_,h,one rfl⟩
  | (obtain ⟨p,hp,he⟩:=h;exact ⟨p,hp,one he.symm⟩)
  | (rcases h with h | h<;>simp at h<;>simp [h])
  | exact h.elim (fun h=>.inl (one h)) fun h=>.inr ⟨_,h,one rfl⟩
theorem isX_t {x:Operand} {i:Nat} (h:isX ds tr x (.t i)=true) {v:Value} (hv:∀ t,ds[i]?=some (some t)→a.tmps.getD t undef=v):a.eval x=v:=by
 unfold isX at h
 split at h<;>first | contradiction | skip
 all_goals (injections<;>subst_vars<;>first | exact hv _ (by simpa using h) | cases h)
theorem isX_vt {ds:List (Option Nat)} {tr:List Nat} {x:Operand} {j:Nat} (h:isX ds tr x (.v j)=true):∃ t,tr[j]?=some t∧x=.tmp t:=by
 cases x
 case tmp t=>exact ⟨t,by simpa [isX] using h,rfl⟩
 all_goals (unfold isX at h;split at h<;>first | contradiction | cases h)
theorem op_step (hS:Slots nt tr pre ds) (h:Fm cx nt tr pre ds st a w) {s:SOp} {g:Option Bool} (hg:g≠some false) (hk:isK P ds tr o s.k=true) (hd:ds[st.n]?=some (resDst o s))
  (hasg:∀ j,s.k.asgTo=some j→o.dst=tr[j]?∧j<tr.length∧pre.contains j=false) (hlt:∀ t,o.dst=some t→t<nt) (hreads:∀ i,i∈s.k.reads→i<st.n) (hxs:∀ j,X.v j∈s.k.xs→pre.contains j=false)
  {K:St→Prop} (hv:opVC P s.k g K st):o.wp P a w (fun a' w'=>∃ st',K st'∧Fm cx nt tr pre ds st' a' w'∧st'.n=st.n+1) Q:=by
 obtain ⟨vl,fp,G,hp,htr,htm,hgh⟩:=h.ex
 obtain ⟨g0,k⟩:=s
 simp only at hk hd hasg hreads hxs hv
 have hx:∀ y,y∈k.xs→∀ x,isX ds tr x y=true→PlG w (stab cx fp G w) (RefOk w st.cont vl) (a.eval x) (st.rd y):=fun y hy x hxy =>
  isX_ok hp htr htm hxy (fun i hi=>hreads i (reads_of (by rw [← hi];exact hy))) (fun j hj=>hxs j (by rw [← hj];exact hy))
 have hok:∀ j,∃ F,ContOk w (stab cx fp G w) (RefOk w st.cont vl) (vl j) F (st.cont j):=fun j=>⟨_,hp.ok j⟩
 have hcd:st.cont (1000+st.n)=.dead:=St.cont_out (by simp only [St.in,not_or,not_and];omega)
 have pure:k.asgTo=none→pureVC (pev k st.rd st.cont) g K st→o.wp P a w (fun a' w'=>∃ st',K st'∧Fm cx nt tr pre ds st' a' w'∧st'.n=st.n+1) Q:=by
  intro hna hv
  unfold pureVC at hv
  split at hv
  ·exact absurd hv.1 hg
  rename_i side res hpev
  obtain ⟨hs,hoc,hK⟩:=hv
  have hside:side:=by
   cases g with
   | none=>exact hs
   | some b=>cases b with
    | false=>exact absurd rfl hg
    | true=>exact hs rfl
  obtain ⟨v,hrun,hpl⟩:=pev_sound (P:=P) (o:=o) (ob:=st.cont) hpev hk hx (fun _ _=>rfl) hok hside
  obtain ⟨h1,h2,h3,h4⟩:=push_plain hp h.wf (whG_ok hpl hoc hg)
  exact wp_of_value hrun ⟨_,hK,h.put hS (s:=⟨g0,k⟩) hd hna hlt htr htm hgh h1 h2 h3 h4,h3⟩
 have new:k.asgTo=none→newVC (newR k st.rd) g K st→o.wp P a w (fun a' w'=>∃ st',K st'∧Fm cx nt tr pre ds st' a' w'∧st'.n=st.n+1) Q:=by
  intro hna hv
  unfold newVC at hv
  cases g with
  | some b=>exact hv.elim
  | none =>
  cases hnew:newR k st.rd with
  | none=>rw [hnew] at hv;exact hv.elim
  | some r =>
   obtain ⟨side,c⟩:=r
   rw [hnew] at hv
   obtain ⟨hs,hK⟩:=hv
   obtain ⟨v,w',F,hrun,hext,hF,hc,hemp⟩:=new_sound (P:=P) (o:=o) (A:=stab cx fp G w) hnew hk hx (fun b hb=>hb.1.1) hs
   have h1:=hp.add hext (k:=1000+st.n) (by rw [hcd];rfl) hF hc hemp
   rw [← St.cont_push h.wf] at h1
   exact wp_of_value hrun ⟨_,hK,h.put hS (s:=⟨g0,k⟩) hd hna hlt htr htm hgh ⟨_,_,h1⟩ (St.wf_push h.wf _) rfl (fun i hi hd=>by rw [St.cont_push h.wf,upd_ne _ _ (by omega)];exact hd),rfl⟩
 have asg:∀ (j:Nat) (x:X),(k=.asg j x∨k=.asgA j x∨k=.asgP j x)→(st.rd x).gate=true→(∀ v,Pl w (stab cx fp G w) (RefOk w st.cont vl) v (st.rd x).core→∃ st' fp' G',K st'∧Hp cx st'.cont (upd (upd vl j v) (1000+st.n) undef) fp' G' w∧st'.wf∧st'.n=st.n+1∧∀ i,i≠j→i<1000→st.cont i=.dead→st'.cont i=.dead) →
   o.wp P a w (fun a' w'=>∃ st',K st'∧Fm cx nt tr pre ds st' a' w'∧st'.n=st.n+1) Q:=by
  intro j x hkk hgt hstep
  have hto:k.asgTo=some j:=by rcases hkk with rfl | rfl | rfl<;>rfl
  obtain ⟨hdst,hjlt,hjp⟩:=hasg j hto
  have hmem:x∈k.xs:=by rcases hkk with rfl | rfl | rfl<;>simp [Kp.xs]
  have hk':∃ x',opMove o.op=some x'∧isX ds tr x' x=true:=by
   rcases hkk with rfl | rfl | rfl
   all_goals
    simp only [isK] at hk
    split at hk<;>try (cases hk;done)
    exact ⟨_,by assumption,hk⟩
  obtain ⟨x',hop,hxx⟩:=hk'
  obtain ⟨st',fp',G',hK,h1,h2,h3,h4⟩:=hstep (a.eval x') ((hx x hmem x' hxx).1 hgt)
  refine wp_of_value (yd_move (opMove_s hop)) ⟨st',hK,⟨⟨_,_,_,h1,fun j' t hj' hpre=>?_,fun i t hi hit=>?_,fun k k1 k2=>by rw [upd_ne _ _ (by omega),upd_ne _ _ (by have:=hS.few;omega)];exact hgh k k1 k2⟩,h2,fun i hi=>h4 i (by rintro rfl;rw [hi] at hjp;cases hjp) (by have:=hS.prelt i hi;have:=hS.few;omega) (h.dd i hi),?_,?_⟩,h3⟩
  ·have hj1:j'<1000:=by have:=(List.getElem?_eq_some_iff.1 hj').1;have:=hS.few;omega
   rw [upd_ne _ _ (by omega)]
   have hjt:tr[j]?=some tr[j]:=List.getElem?_eq_getElem hjlt
   rw [hdst,hjt]
   simp only [Act.put]
   by_cases hjj:j'=j
   ·subst hjj
    rw [hjt] at hj'
    injection hj' with hj'
    rw [upd_same,← hj']
    exact getD_set_eq _ (by rw [h.size];exact hS.trlt _ _ hjt)
   ·rw [upd_ne _ _ hjj,getD_set_ne _ (by rintro rfl;exact hjj (hS.trinj _ _ _ hj' hjt))]
    exact htr j' t hj' hpre
  ·have hjt:tr[j]?=some tr[j]:=List.getElem?_eq_getElem hjlt
   have hne:i≠st.n:=by
    rintro rfl
    rw [hd] at hit
    simp [resDst,hto] at hit
   rw [upd_ne _ _ (by omega),upd_ne _ _ (by have:=hS.few;omega),hdst,hjt]
   simp only [Act.put]
   rw [getD_set_ne _ (by
    rintro rfl
    have:=hS.apart _ _ hit j hjt
    rw [hjp] at this;cases this)]
   exact htm i t (by omega) hit
  ·cases o.dst<;>simp [Act.put,h.size]
  ·cases o.dst<;>simp [Act.put,h.defers]
 have store:∀ (n:Nat) (x y:X),(k=.st x y∧n=1∨k=.stn n x y)→((st.rd x).gate&&(st.rd y).gate)=true→storeK n (st.rd x).core (st.rd y).core K st→o.wp P a w (fun a' w'=>∃ st',K st'∧Fm cx nt tr pre ds st' a' w'∧st'.n=st.n+1) Q:=by
  intro n x y hkk hgt hv
  have hna:k.asgTo=none:=by rcases hkk with ⟨rfl,_⟩ | rfl<;>rfl
  have hmx:x∈k.xs∧y∈k.xs:=by rcases hkk with ⟨rfl,_⟩ | rfl<;>simp [Kp.xs]
  have hk':∃ t x' y',o.op=.store t x' y'∧isX ds tr x' x=true∧isX ds tr y' y=true∧sizeT P t n=true:=by
   rcases hkk with ⟨rfl,rfl⟩ | rfl
   all_goals
    simp only [isK] at hk
    split at hk<;>try (cases hk;done)
    rename_i t x' y' hop
    simp only [Bool.and_eq_true] at hk
    exact ⟨t,x',y',opStore_s hop,hk.1.1,hk.1.2,hk.2⟩
  obtain ⟨t,x',y',ho,hx1,hy1,hsz⟩:=hk'
  simp only [Bool.and_eq_true] at hgt
  obtain ⟨b,off,e1,e2,e3,e4,st',fp',G',h0,h1,h2,h3,h4⟩:=store_hp hv hp h.wf ((hx x hmx.1 x' hx1).1 hgt.1) ((hx y hmx.2 y' hy1).1 hgt.2) undef
  exact wp_of_skip (run_st ho hsz e1 e2 e3 e4) ⟨_,h0,h.put hS (s:=⟨g0,k⟩) hd hna hlt htr htm hgh ⟨_,_,h1⟩ h2 h3 h4,h3⟩
 have storeR:∀ (n:Nat) (x y:X),k=.stR n x y→((st.rd x).gate&&(st.rd y).gate)=true→storeRK n (st.rd x).core (st.rd y).core K st→o.wp P a w (fun a' w'=>∃ st',K st'∧Fm cx nt tr pre ds st' a' w'∧st'.n=st.n+1) Q:=by
  intro n x y hkk hgt hv
  have hna:k.asgTo=none:=by subst hkk;rfl
  have hmx:x∈k.xs∧y∈k.xs:=by subst hkk;simp [Kp.xs]
  have hk':∃ t x' y',o.op=.store t x' y'∧isX ds tr x' x=true∧isX ds tr y' y=true∧sizeT P t n=true:=by
   subst hkk
   all_goals
    simp only [isK] at hk
    split at hk<;>try (cases hk;done)
    rename_i t x' y' hop
    simp only [Bool.and_eq_true] at hk
    exact ⟨t,x',y',opStore_s hop,hk.1.1,hk.1.2,hk.2⟩
  obtain ⟨t,x',y',ho,hx1,hy1,hsz⟩:=hk'
  simp only [Bool.and_eq_true] at hgt
  obtain ⟨b,off,e1,e2,e3,e4,st',fp',G',h0,h1,h2,h3,h4⟩:=storeR_hp hv hp h.wf ((hx x hmx.1 x' hx1).1 hgt.1) ((hx y hmx.2 y' hy1).1 hgt.2) undef
  exact wp_of_skip (run_st ho hsz e1 e2 e3 e4) ⟨_,h0,h.put hS (s:=⟨g0,k⟩) hd hna hlt htr htm hgh ⟨_,_,h1⟩ h2 h3 h4,h3⟩
 cases k with
 | asg j x =>
  obtain ⟨_,hgt,hv⟩:=hv
  exact asg j x (.inl rfl) hgt fun v hpl=>asg_hp hv hp h.wf (by have:=(hasg j rfl).2.1;have:=hS.few;omega) hpl undef
 | asgA j x =>
  obtain ⟨_,hgt,hv⟩:=hv
  exact asg j x (.inr (.inl rfl)) hgt fun v hpl=>asgA_hp hv hp h.wf hpl undef
 | asgP j x =>
  obtain ⟨_,hgt,hv⟩:=hv
  exact asg j x (.inr (.inr rfl)) hgt fun v hpl=>asgP_hp hv hp h.wf (by have:=(hasg j rfl).2.1;have:=hS.few;omega) hpl undef
 | st x y=>exact store 1 x y (.inl ⟨rfl,rfl⟩) hv.2.1 hv.2.2
 | stn n x y=>exact store n x y (.inr rfl) hv.2.1 hv.2.2
 | stR n x y=>exact storeR n x y rfl hv.2.1 hv.2.2
 | calle f xs =>
  cases xs with
  | nil=>exact hv.elim
  | cons x0 r =>
   refine io_sound hp h.wf hk hx hv fun v w' st' hK hp' hwf hn hdd=>?_
   exact ⟨st',hK,h.put hS (s:=⟨g0,.calle f (x0::r)⟩) hd rfl hlt htr htm hgh hp' hwf hn hdd,hn⟩
 | bo x =>
  obtain ⟨_,hgt,hv⟩:=hv
  simp only [isK] at hk
  split at hk<;>try (cases hk;done)
  rename_i x' hop
  have hpl:=(hx x (by simp [Kp.xs]) x' hk).1 hgt
  obtain ⟨c,st2,fp2,G2,F,r1,r2,r3,r4,r5,r6,r7,r8⟩:=boxd_sound hp h.wf hpl hv
  have r2':Hp cx st2.cont vl fp2 F w:=r2.release r5
  obtain ⟨s1,s2,s3,s4⟩:=res_put r2' r7 r8 (r3.mono (Q:=fun _=>True) (fun b hb=>⟨hb.1,fun hf=>hb.2.1 (r5 b hf),hb.2.2⟩) (fun _ _=>rfl) (fun _ _=>rfl) (fun _ h=>h) (refs_all (fun _=>trivial) _) fun _ _ _ h=>h) r4
  exact wp_of_value (yd_move (opMove_s hop)) ⟨_,r1,h.put hS (s:=⟨g0,.bo x⟩) hd rfl hlt htr htm hgh s1 s2 s3 (fun i hi hdd=>s4 i hi (r6 i hdd)),s3⟩
 | boxo n x =>
  obtain ⟨_,hgt,hv⟩:=hv
  simp only [isK] at hk
  split at hk<;>try (cases hk;done)
  rename_i e x' hop
  simp only [Bool.and_eq_true] at hk
  obtain ⟨st',h0,h1,h2,h3,h4⟩:=boxo_hp hv hp h.wf ((hx x (by simp [Kp.xs]) x' hk.1).1 hgt) e
  exact wp_of_value (run_box (opBox_s hop)) ⟨_,h0,h.put hS (s:=⟨g0,.boxo n x⟩) hd rfl hlt htr htm hgh h1 h2 h3 h4,h3⟩
 | bldT z x =>
  obtain ⟨_,hgt,hv⟩:=hv
  simp only [isK] at hk
  split at hk<;>try (cases hk;done)
  rename_i t n' ps hop
  simp only [Bool.and_eq_true,decide_eq_true_eq] at hk
  obtain ⟨⟨⟨⟨rfl,hk1⟩,hk2⟩,hk3⟩,hk4⟩:=hk
  split at hk4<;>try (cases hk4;done)
  rename_i e he
  obtain ⟨i,z',h1,h2,h3,h4,h5⟩:=zeroT_parts hk4
  have hu:=sliceT_under he
  obtain ⟨x',hps,hx'⟩:∃ x',ps.toList=[(0,x')]∧isX ds tr x' x=true:=by
   have hg:=isRowParts_get hk1
   generalize ps.toList=pl at hg
   match pl,hg with
   | [(i,x')],hg =>
    obtain ⟨h6,h7⟩:=hg.2 0 i x' 0 x rfl rfl
    exact ⟨x',by rw [h6],h7⟩
   | [],hg=>cases hg.1
   | _::_::_,hg=>have:=hg.1;simp at this
  obtain ⟨hsz,hb⟩:=bldT_hp hv hp h.wf ((hx x (by simp [Kp.xs]) x' hx').1 hgt) hk2 e
  obtain ⟨cs',f1,f2,f3⟩:=fill_one (sz:=i.size) (cs:=madeCells z'.cells (1*i.size)) (v:=a.eval x') (by rw [hsz,h3]) (by simp [madeCells])
  obtain ⟨st',k0,k1,k2,k3,k4⟩:=hb cs' (by rw [f2,h3]) (fun j hj=>f3 j (by rw [h3];exact hj))
  exact wp_of_value (run_bldS (opBldS_s hop) hu h1 h2 (by omega) (by rw [hps];exact f1)) ⟨_,k0,h.put hS (s:=⟨g0,.bldT z x⟩) hd rfl hlt htr htm hgh k1 k2 k3 k4,k3⟩
 | mup kk m k x =>
  obtain ⟨_,hgt,hv⟩:=hv
  simp only [isK] at hk
  split at hk<;>try (cases hk;done)
  rename_i t m' k' x' hop
  have ho:=opMup_s hop
  simp only [Bool.and_eq_true] at hk hgt
  obtain ⟨⟨⟨hk1,hk2⟩,hk3⟩,hk4⟩:=hk
  split at hk4<;>try (cases hk4;done)
  rename_i kt et hmt
  obtain ⟨w',hrun,st',h0,h1,h2,h3,h4⟩:=mup_hp hv hp h.wf ((hx m (by simp [Kp.xs]) m' hk1).1 hgt.1.1) ((hx k (by simp [Kp.xs]) k' hk2).1 hgt.1.2) ((hx x (by simp [Kp.xs]) x' hk3).1 hgt.2) (mapT_s hmt) hk4 undef
  refine wp_of_skip (w':=w') ?_ ⟨_,h0,h.put hS (s:=⟨g0,.mup kk m k x⟩) hd rfl hlt htr htm hgh h1 h2 h3 h4,h3⟩
  simp only [execOp,ho,Sem.run_bind,Sem.run_pure,Result.andThen_ok,hrun]
 | nxt j =>
  obtain ⟨_,hv⟩:=hv
  simp only [isK] at hk
  split at hk<;>try (cases hk;done)
  rename_i x' hop
  have ho:=opNxt_s hop
  obtain ⟨t,htj,rfl⟩:=isX_vt hk
  have hvt:a.eval (.tmp t)=vl j:=htr j t htj (hxs j (by simp [Kp.xs]))
  obtain ⟨w',v,hrun,st',h0,h1,h2,h3,h4⟩:=nxt_hp (P:=P) (ty:=o.type) hv hp h.wf
  refine wp_of_value (v:=v) (w':=w') ?_ ⟨_,h0,h.put hS (s:=⟨g0,.nxt j⟩) hd rfl hlt htr htm hgh h1 h2 h3 h4,h3⟩
  simp only [execOp,ho,hvt,Sem.run_bind,Sem.run_pure,Result.andThen_ok,hrun]
 | cpy x y =>
  obtain ⟨_,hgt,hv⟩:=hv
  simp only [isK] at hk
  split at hk<;>try (cases hk;done)
  rename_i x' y' t t' hop
  have ho:=opBuiltin_s hop
  simp only [Bool.and_eq_true] at hk hgt
  obtain ⟨⟨hk1,hk2⟩,hk3⟩:=hk
  split at hk3<;>try (cases hk3;done)
  rename_i e e' he he'
  obtain ⟨v,w',hrun,st',h0,h1,h2,h3,h4⟩:=cpy_hp (t':=t') (ty:=o.type) hv hp h.wf ((hx x (by simp [Kp.xs]) x' hk1).1 hgt.1) ((hx y (by simp [Kp.xs]) y' hk2).1 hgt.2) (sliceT_under he) hk3
  refine wp_of_value (v:=v) (w':=w') ?_ ⟨_,h0,h.put hS (s:=⟨g0,.cpy x y⟩) hd rfl hlt htr htm hgh h1 h2 h3 h4,h3⟩
  simp only [execOp,ho,resolve,invoke,builtin,Sem.run_bind,Sem.run_pure,Result.andThen_ok,List.map_toArray,List.map_cons,List.map_nil,hrun]
 | dyn x xs =>
  refine dyn_sound hp h.wf hk hx hg hv fun v w' st' hK hp' hwf hn hdd=>?_
  exact ⟨st',hK,h.put hS (s:=⟨g0,.dyn x xs⟩) hd rfl hlt htr htm hgh hp' hwf hn hdd,hn⟩
 | call f xs =>
  obtain ⟨dts,res,cr,hgl,hrest,hcr,hK⟩:=hv
  have hh:gates st.rd xs=true∧Ret P f (dts.map .v) res∧(res.novw=true∨plainL st.rd xs):=by
   cases g with
   | none=>exact hrest
   | some b=>cases b with
    | false=>exact absurd rfl hg
    | true=>exact hrest rfl
  refine call_sound (ob:=st.cont) hp hk hx (fun _ _=>rfl) hgl hh.1 hh.2.1 hh.2.2 g hg hcr fun v w' F hext hF hc hemp=>?_
  have h1:=hp.add hext (k:=1000+st.n) (by rw [hcd];rfl) hF hc hemp
  rw [← St.cont_push h.wf] at h1
  exact ⟨_,hK,h.put hS (s:=⟨g0,.call f xs⟩) hd rfl hlt htr htm hgh ⟨_,_,h1⟩ (St.wf_push h.wf _) rfl (fun i hi hd=>by rw [St.cont_push h.wf,upd_ne _ _ (by omega)];exact hd),rfl⟩
 | callk f xs =>
  obtain ⟨rfl,hgt,c,hko,hK⟩:=hv
  refine callk_sound (ob:=st.cont) hp hk hx hgt (fun _ _=>rfl) hko fun v w' hext hc hemp=>?_
  have h1:=hp.add hext (k:=1000+st.n) (by rw [hcd];rfl) (fun _ h=>h.elim) hc (fun _ _ h=>h)
  rw [← St.cont_push h.wf] at h1
  exact ⟨_,hK,h.put hS (s:=⟨g0,.callk f xs⟩) hd rfl hlt htr htm hgh ⟨_,_,h1⟩ (St.wf_push h.wf _) rfl (fun i hi hd=>by rw [St.cont_push h.wf,upd_ne _ _ (by omega)];exact hd),rfl⟩
 | app sz bytes s x =>
  obtain ⟨_,hgt,hv⟩:=hv
  simp only [isK] at hk
  split at hk<;>try (cases hk;done)
  rename_i s' x' t t' hop
  have ho:=opBuiltin_s hop
  simp only [Bool.and_eq_true,beq_iff_eq] at hk
  obtain ⟨⟨⟨hk1,hk2⟩,rfl⟩,hk3⟩:=hk
  split at hk3<;>try (cases hk3;done)
  rename_i e he
  simp only [Bool.and_eq_true] at hk3
  obtain ⟨hk4,hk5⟩:=hk3
  split at hk5<;>try (cases hk5;done)
  rename_i i hi
  simp only [Bool.and_eq_true,decide_eq_true_eq,Option.any_eq_true] at hk5
  obtain ⟨⟨⟨hsz,hby⟩,hisz⟩,z,hz,hzs⟩:=hk5
  have hbi:i.bytes=bytes:=by
   unfold bytesT at hk4
   rw [hi] at hk4
   simpa using hk4
  have ht:=sliceT_under he
  simp only [Bool.and_eq_true] at hgt
  obtain ⟨v',w',hrun,st',fp',G',h0,h1,h2,h3,h4⟩:=app_hp (ty:=o.type) hv hp h.wf ((hx s (by simp [Kp.xs]) s' hk1).1 hgt.1) ((hx x (by simp [Kp.xs]) x' hk2).1 hgt.2) ht hi hz hzs hisz hsz hbi hby
  refine wp_of_value (v:=v') (w':=w') ?_ ⟨_,h0,h.put hS (s:=⟨g0,.app sz bytes s x⟩) hd rfl hlt htr htm hgh ⟨_,_,h1⟩ h2 h3 h4,h3⟩
  simp only [execOp,ho,resolve,invoke,builtin,Sem.run_bind,Sem.run_pure,Result.andThen_ok,List.map_toArray,List.map_cons,List.map_nil,hrun]
 | apt sz bytes b s =>
  obtain ⟨_,hv⟩:=hv
  simp only [isK] at hk
  split at hk<;>try (cases hk;done)
  rename_i s' x' t t' hop
  have ho:=opBuiltin_s hop
  simp only [Bool.and_eq_true,beq_iff_eq] at hk
  obtain ⟨⟨⟨hk1,hk2⟩,rfl⟩,hk3⟩:=hk
  split at hk3<;>try (cases hk3;done)
  rename_i e he
  simp only [Bool.and_eq_true] at hk3
  obtain ⟨hk4,hk5⟩:=hk3
  split at hk5<;>try (cases hk5;done)
  rename_i i hi
  simp only [Bool.and_eq_true,decide_eq_true_eq,Option.any_eq_true] at hk5
  obtain ⟨⟨⟨hsz,hby⟩,hisz⟩,z,hz,hzs⟩:=hk5
  have hbi:i.bytes=bytes:=by
   unfold bytesT at hk4
   rw [hi] at hk4
   simpa using hk4
  have ht:=sliceT_under he
  obtain ⟨rfl,c,hf,_,hK⟩:=apt_split hv
  have hin:st.in (1000+b):=Classical.byContradiction fun hn=>by
   obtain ⟨y,_,_,_,h1,_⟩:=hf
   rw [St.cont_out hn] at h1;cases h1
  have hbn:b<st.n:=by rcases hin with h1 | h1<;>omega
  have hcp:=St.cont_put_in h.wf hin (c:=.dead)
  have hwp:(st.put (1000+b) .dead).wf:=St.wf_put h.wf _ _
  have hnp:(st.put (1000+b) .dead).n=st.n:=by unfold St.put;split<;>first | rfl | (split<;>rfl)
  obtain ⟨v',w',hrun,fp',G',hp'⟩:=apt_hp (ty:=o.type) (ke:=1000+st.n) hp hf hcd ht hi hz hzs hisz hbi hby
  have hc2:((st.put (1000+b) .dead).push c).cont=upd (upd st.cont (1000+b) .dead) (1000+st.n) c:=by rw [St.cont_push hwp,hnp,hcp]
  rw [← hc2] at hp'
  have hvb:(a.eval s')=vl (1000+b):=isX_t hk1 fun t=>htm b t (hreads b (by simp [Kp.reads]))
  have hvs:(a.eval x')=vl (1000+s):=isX_t hk2 fun t=>htm s t (hreads s (by simp [Kp.reads]))
  refine wp_of_value (v:=v') (w':=w') ?_ ⟨_,hK,h.put hS (s:=⟨g0,.apt 1 bytes b s⟩) hd rfl hlt htr htm hgh ⟨_,_,hp'⟩ (St.wf_push hwp _) (by show (st.put _ _).n+1=_;rw [hnp]) (fun i hi hd=>by rw [hc2,upd_ne _ _ (by omega),upd_ne _ _ (by omega)];exact hd),by show (st.put _ _).n+1=_;rw [hnp]⟩
  rw [← hvb,← hvs] at hrun
  simp only [execOp,ho,resolve,invoke,builtin,Sem.run_bind,Sem.run_pure,Result.andThen_ok,List.map_toArray,List.map_cons,List.map_nil,hrun]
 | box n x=>exact new rfl hv
 | boxv n x=>exact new rfl hv
 | alc zs=>exact new rfl hv
 | mkS z b l c=>exact new rfl hv
 | mkM=>exact new rfl hv
 | rng x=>exact new rfl hv
 | cvB x=>exact new rfl hv
 | bldS z n ps=>exact new rfl hv
 | _=>exact pure rfl hv
theorem skip_step (hS:Slots nt tr pre ds) (h:Fm cx nt tr pre ds st a w) {s:SOp} (hd:ds[st.n]?=some (resDst o s)) (hna:s.k.asgTo=none) (hlt:∀ t,o.dst=some t→t<nt)
  {K:St→Prop} (hv:opVC P s.k (some false) K st):∃ st',K st'∧Fm cx nt tr pre ds st' (a.put o.dst undef) w∧st'.n=st.n+1:=by
 obtain ⟨vl,fp,G,hp,htr,htm,hgh⟩:=h.ex
 obtain ⟨g0,k⟩:=s
 have done:∀ d,K (st.push (.when false d))→∃ st',K st'∧Fm cx nt tr pre ds st' (a.put o.dst undef) w∧st'.n=st.n+1:=by
  intro d hK
  obtain ⟨h1,h2,h3,h4⟩:=push_plain (v:=undef) hp h.wf (when_false (d:=d))
  exact ⟨_,hK,h.put hS hd hna hlt htr htm hgh h1 h2 h3 h4,h3⟩
 have pure:pureVC (pev k st.rd st.cont) (some false) K st→∃ st',K st'∧Fm cx nt tr pre ds st' (a.put o.dst undef) w∧st'.n=st.n+1:=by
  intro hv
  unfold pureVC at hv
  split at hv
  ·exact done _ hv.2
  ·exact done _ hv.2.2
 have new:newVC (newR k st.rd) (some false) K st→∃ st',K st'∧Fm cx nt tr pre ds st' (a.put o.dst undef) w∧st'.n=st.n+1:=by
  intro hv;exact hv.elim
 cases k with
 | asg j x=>cases hv.1
 | asgA j x=>cases hv.1
 | asgP j x=>cases hv.1
 | st x y=>cases hv.1
 | stn n x y=>cases hv.1
 | stR n x y=>cases hv.1
 | app sz bytes s x=>cases hv.1
 | calle f xs =>
  cases xs with
  | nil=>exact hv.elim
  | cons x0 r=>cases hv.1
 | dyn x xs =>
  have hv:@dynVC P (st.rd x).core (rdsL st.rd xs) (gates st.rd (x::xs)) (some false) ⟨K⟩ st:=hv
  exact done _ hv
 | bo x=>cases hv.1
 | cpy x y=>cases hv.1
 | mup kk m k v=>cases hv.1
 | mkM=>exact new hv
 | rng x=>exact new hv
 | cvB x=>exact new hv
 | nxt j=>cases hv.1
 | apt sz bytes b s=>cases hv.1
 | boxo n x=>cases hv.1
 | bldT z x=>cases hv.1
 | callk f xs=>cases hv.1
 | call f xs =>
  obtain ⟨dts,res,_,hgl,hrest,rfl,hK⟩:=hv
  exact done _ hK
 | box n x=>exact new hv
 | boxv n x=>exact new hv
 | alc zs=>exact new hv
 | mkS z b l c=>exact new hv
 | bldS z n ps=>exact new hv
 | _=>exact pure hv
end
end Go.D3
