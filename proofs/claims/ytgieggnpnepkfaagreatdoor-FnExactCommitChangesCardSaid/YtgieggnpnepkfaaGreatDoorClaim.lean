/- FROM A LAW's CONTRACT TO WHAT A ROW ASKS. Generic. -/
import Derived.Test.YtgieggnpnepkfaaGreatDoorTy
import Derived.ChangeSame
namespace Go.D3
open Go Go.ChangeShapes Go.RowKit
def Ty.args:(t:Ty)→t.V→List D
 | .cons a b,(x,y)=>a.d x::b.args y
 | _,_=>[]
def Ty.chkAll (P:Program):Ty→List TypeId→Bool
 | .nil,[]=>true
 | .cons a b,T::r=>a.chk P (.inl T)&&P.readableRec T&&decide (T<P.types.size)&&(a.st == (match P.underlying T with | some (.struct _)=>true | _=>false))&&b.chkAll P r
 | _,_=>false
section
variable {H:Type} {enc:TypeId×Value→H} {P:Program} {w w':World}
theorem wrap_rd {A:Nat→Prop} {ty:Ty} {T:TypeId} {v:Value} {base:Nat} (hc:ty.chk P (.inl T)=true) (hst:ty.st=(match P.underlying T with | some (.struct _)=>true | _=>false)) (hv:Value.okWide P w .any base T v) {y:ty.V}
  (hl:v.cells.toList.length=ty.n) (h:∀ j c,(ty.cs y)[j]?=some c→Rd w A (v.cells.toList.getD j undef) c):Rd w A v (ty.d y):=by
 have one:ty.st=false→(∀ cs,v≠.agg cs)→Rd w A v (ty.d y):=by
  intro hs hna
  have hcells:v.cells=#[v]:=by cases v<;>first | rfl | exact absurd rfl (hna _)
  rw [hcells] at h
  have:∃ c,ty.cs y=[c]:=by
   cases ty<;>first | exact ⟨_,rfl⟩ | cases hs
  obtain ⟨c,hc⟩:=this
  have hd:ty.d y=c:=by unfold Ty.d wrapD;rw [hs,hc];rfl
  rw [hd]
  exact h 0 c (by rw [hc];rfl)
 cases hs:ty.st with
 | false =>
  refine one hs fun cs hcs=>?_
  subst hcs
  rw [hs] at hst
  unfold Value.okWide at hv
  cases ty<;>simp only [Ty.chk] at hc<;>first | cases hs | skip
  all_goals
   split at hc<;>try (cases hc;done)
   rename_i hu
   rw [hu] at hv
   simp [Cell.okWide,Cell.ok,hu] at hv
 | true =>
  have hu:∃ fs,P.underlying T=some (.struct fs):=by
   rw [hs] at hst
   split at hst
   ·exact ⟨_,by assumption⟩
   ·cases hst
  obtain ⟨fs,hu⟩:=hu
  unfold Value.okWide at hv
  rw [hu] at hv
  obtain ⟨cs,rfl,_,_⟩:=hv
  have hd:ty.d y=.agg (ty.cs y):=by unfold Ty.d wrapD;rw [hs]
  rw [hd]
  refine .agg (by rw [Ty.cs_len];simpa [Value.cells] using hl) fun j c hj=>?_
  have:=h j c hj
  simpa [Value.cells] using this
theorem args_rd {base:Nat}:∀ (ty:Ty) {ts:List TypeId} {vs:List Value} {ds:List (DataW H)} {ps:List MemPlace},ty.chkAll P ts=true→DataW.TrodAll enc P w 0 (fun _=>true) true ts vs ds ps →
  (∀ (j:Nat) (t:TypeId) (v:Value),ts[j]?=some t→vs[j]?=some v→Value.okWide P w .any base t v) →
  ∃ y:ty.V,vs.length=(ty.args y).length∧∀ (j:Nat) (d:D),(ty.args y)[j]?=some d→Rd w (live' w) (vs.getD j undef) d
 | .cons a b,T::ts,vs,ds,ps,hc,h,hv=>by
  obtain ⟨v,vs',d,ds',p,q,rfl,rfl,rfl,h1,h2⟩:=trodAll_cons h
  simp only [Ty.chkAll,Bool.and_eq_true,beq_iff_eq] at hc
  obtain ⟨⟨⟨⟨c1,c2⟩,c3⟩,c4⟩,c5⟩:=hc
  obtain ⟨fuel,hf⟩:=h1
  obtain ⟨y1,k1,k2⟩:=(trod_ty a).1 c1 hf
  obtain ⟨y2,k3,k4⟩:=args_rd b c5 h2 fun j t v' hj hv'=>hv (j+1) t v' (by simpa using hj) (by simpa using hv')
  refine ⟨(y1,y2),by simp [Ty.args,k3],fun j x hx=>?_⟩
  cases j with
  | zero =>
   simp [Ty.args] at hx
   subst hx
   exact wrap_rd c1 c4 (hv 0 T v rfl rfl) k1 k2
  | succ j =>
   simp [Ty.args] at hx
   simpa using k4 j x hx
 | .nil,[],vs,ds,ps,hc,h,hv=>by
  obtain ⟨rfl,rfl,rfl⟩:=trodAll_nil h
  exact ⟨(),rfl,fun j x hx=>by simp [Ty.args] at hx⟩
 | .cons a b,[],vs,ds,ps,hc,h,hv=>by simp [Ty.chkAll] at hc
 | .nil,_::_,vs,ds,ps,hc,h,hv=>by simp [Ty.chkAll] at hc
 | .int _,ts,vs,ds,ps,hc,h,hv=>by cases ts<;>simp [Ty.chkAll] at hc
 | .bool,ts,vs,ds,ps,hc,h,hv=>by cases ts<;>simp [Ty.chkAll] at hc
 | .str,ts,vs,ds,ps,hc,h,hv=>by cases ts<;>simp [Ty.chkAll] at hc
 | .sl _,ts,vs,ds,ps,hc,h,hv=>by cases ts<;>simp [Ty.chkAll] at hc
theorem args_again (hl:laidOutB P=true) (hb:Below w.heap.size w w') {sp:Nat→Bool}:∀ (ty:Ty) {ts:List TypeId} {vs:List Value} {ds:List (DataW H)} {ps:List MemPlace},ty.chkAll P ts=true→DataW.TrodAll enc P w 0 (fun _=>true) true ts vs ds ps →
  (∀ p∈ps,p.block<w.heap.size)→(∀ p∈ps,sp p.block=true)→DataW.TrodAll enc P w' 0 sp true ts vs ds ps
 | .cons a b,T::ts,vs,ds,ps,hc,h,hlt,hsp=>by
  obtain ⟨v,vs',d,ds',p,q,rfl,rfl,rfl,h1,h2⟩:=trodAll_cons h
  simp only [Ty.chkAll,Bool.and_eq_true,decide_eq_true_eq] at hc
  obtain ⟨⟨⟨⟨c1,c2⟩,c3⟩,c4⟩,c5⟩:=hc
  exact trodAll_cons_mk (WideElems.Trod_stays hl c2 c3 h1 (fun x hx=>hb.same (hlt x (List.mem_append_left _ hx))) fun x hx=>hsp x (List.mem_append_left _ hx))
   (args_again hl hb b c5 h2 (fun x hx=>hlt x (List.mem_append_right _ hx)) fun x hx=>hsp x (List.mem_append_right _ hx))
 | .nil,[],vs,ds,ps,hc,h,hlt,hsp=>by
  obtain ⟨rfl,rfl,rfl⟩:=trodAll_nil h
  exact trodAll_mk0
 | .cons a b,[],vs,ds,ps,hc,h,_,_=>by simp [Ty.chkAll] at hc
 | .nil,_::_,vs,ds,ps,hc,h,_,_=>by simp [Ty.chkAll] at hc
 | .int _,ts,vs,ds,ps,hc,h,_,_=>by cases ts<;>simp [Ty.chkAll] at hc
 | .bool,ts,vs,ds,ps,hc,h,_,_=>by cases ts<;>simp [Ty.chkAll] at hc
 | .str,ts,vs,ds,ps,hc,h,_,_=>by cases ts<;>simp [Ty.chkAll] at hc
 | .sl _,ts,vs,ds,ps,hc,h,_,_=>by cases ts<;>simp [Ty.chkAll] at hc
theorem kept_of_below (hb:Below w.heap.size w w') (may:MemPlace→Prop):w.keptBut w' may:=by
 refine ⟨hb.os,hb.output,fun i hi=>?_⟩
 rw [hb.block i hi]
 cases w.heap[i]? with
 | none=>rfl
 | some o=>cases o<;>first | exact ⟨rfl,rfl,rfl,fun _ _=>rfl⟩ | exact .inr ⟨rfl,rfl⟩ | rfl
end
end Go.D3
