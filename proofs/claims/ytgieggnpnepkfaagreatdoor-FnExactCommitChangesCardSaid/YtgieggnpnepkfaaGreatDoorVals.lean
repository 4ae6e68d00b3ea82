/- WHAT THE MODEL'S OPERATIONS YIELD ON VALUES. Generic. -/
import Derived.Test.YtgieggnpnepkfaaGreatDoorEval
import Derived.Laws.Entries
import Derived.Laws.Tables
import Derived.Laws.MakeOwn
import Derived.Laws.Cells
import Derived.Laws.StructEq
namespace Go.D3
open Go
def okInt (k:IntKind) (n:Int):Bool:=decide (k.min≤n)&&decide (n≤k.max)
theorem okInt_has {k:IntKind} {n:Int} (h:okInt k n=true):k.has n:=by
 simp [okInt] at h
 exact h
def sizeT (P:Program) (t:TypeId) (n:Nat):Bool :=
 match P.info? t with
 | some i=>decide (i.size=n)
 | none=>false
def bytesT (P:Program) (t:TypeId) (n:Nat):Bool :=
 match P.info? t with
 | some i=>decide (i.bytes=n)
 | none=>false
def aggT (P:Program) (t:TypeId):Bool:=match P.underlying t with
 | some (.struct _) | some (.array _ _)=>true
 | _=>false
def cellT (P:Program) (t:TypeId):Bool:=match P.underlying t with
 | some (.struct _) | some (.array _ _) | none=>false
 | _=>true
def sliceT (P:Program) (t:TypeId):Option TypeId:=match P.underlying t with
 | some (.slice e)=>some e
 | _=>none
def fieldT (P:Program) (t:TypeId) (f:Nat):Option (Nat×TypeId):=match P.underlying t with
 | some (.struct fs)=>(fs[f]?).map fun x=>(x.offset,x.type)
 | _=>none
theorem has_len {n:Nat} (h:n≤maxLen):IntKind.i64.has (n:Int):=by
 simp only [maxLen] at h
 constructor
 ·simp [IntKind.min,IntKind.signed,IntKind.bits]<;>omega
 ·simp [IntKind.max,IntKind.signed,IntKind.bits]<;>omega
theorem wrap_has (k:IntKind) (n:Int):k.has (k.wrap n):=by
 have hs:∀ (bits:Nat),True:=fun _=>trivial
 cases k<;>simp only [IntKind.has,IntKind.min,IntKind.max,IntKind.wrap,IntKind.signed,IntKind.bits]<;>simp<;>(first | omega | (split<;>omega))
def Yd (P:Program) (o:Oper) (a:Act) (w:World) (v:Value):Prop:=(execOp a.eval o).run P w=.ok (.value v) w
section
variable {P:Program} {o:Oper} {w:World} {a:Act}
theorem yd_move {x:Operand} (ho:o.op=.move x∨o.op=.assign x):Yd P o a w (a.eval x):=by
 rcases ho with ho | ho<;>simp [Yd,execOp,ho]
theorem intBin_has {op:BinOp} {k:IntKind} {m n:Int} (hm:k.has m) {side:Prop} {d:D} (hb:intBin op k m n=some (side,d)) (hs:side):∃ v,Rd w (fun _=>False) v d ∧
  (∀ {t u:TypeId} {x y:Operand},o.op=.binOp op t x y u→a.eval x=.int k m→a.eval y=.int k n→Yd P o a w v):=by
 have hg:∀ t x y w,(eqGuard op t x y (.int k m) (.int k n)).run P w=.ok () w:=by
  intro t x y w;unfold eqGuard;cases op<;>rfl
 have hq:∀ (d:Int),(¬ n=0)→(Op.intDiv .quo k m n).run P w=.ok (.int k (k.wrap (m.tdiv n))) w∧(Op.intDiv .rem k m n).run P w=.ok (.int k (m.tmod n)) w:=by
  intro _ h0
  constructor<;>simp [Op.intDiv,h0]
 cases op<;>simp only [intBin,Option.some.injEq,Prod.mk.injEq,reduceCtorEq] at hb
 case quo =>
  obtain ⟨h1,rfl⟩:=hb
  rw [← h1] at hs
  refine ⟨.int k (k.wrap (m.tdiv n)),Rd.int (wrap_has _ _),fun ho hx hy=>?_⟩
  simp [Yd,execOp,ho,hx,hy,hg,binOp,(hq 0 hs).1]
 case rem =>
  obtain ⟨h1,rfl⟩:=hb
  rw [← h1] at hs
  refine ⟨.int k (m.tmod n),Rd.int ?_,fun ho hx hy=>by simp [Yd,execOp,ho,hx,hy,hg,binOp,(hq 0 hs).2]⟩
  have h3:(m.tmod n).natAbs≤m.natAbs:=by
   rw [Int.natAbs_tmod];exact Nat.mod_le _ _
  obtain ⟨h4,h5⟩:=hm
  have h8:k.min≤0∧0≤k.max:=by cases k<;>simp [IntKind.min,IntKind.max,IntKind.signed,IntKind.bits]
  rcases Int.le_total 0 m with h6 | h6
  ·have h7:=Int.tmod_nonneg n h6
   constructor<;>omega
  ·have h7:m.tmod n≤0:=by
    have:=Int.tmod_nonneg n (show 0≤-m by omega)
    rw [Int.neg_tmod] at this;omega
   constructor<;>omega
 all_goals
  obtain ⟨-,rfl⟩:=hb
  first
  | exact ⟨_,Rd.int (wrap_has _ _),fun ho hx hy=>by simp [Yd,execOp,ho,hx,hy,hg,binOp,Op.intArith]⟩
  | exact ⟨_,Rd.bool,fun ho hx hy=>by simp [Yd,execOp,ho,hx,hy,hg,binOp,Op.intCmp]⟩
theorem strBin_has {op:BinOp} {m n:List UInt8} {side:Prop} {d:D} (hb:strBin op m n=some (side,d)) (hs:side):∃ v,Rd w (fun _=>False) v d ∧
  (∀ {t u:TypeId} {x y:Operand},o.op=.binOp op t x y u→a.eval x=.string ⟨m.toArray⟩→a.eval y=.string ⟨n.toArray⟩→Yd P o a w v):=by
 have hg:∀ t x y w,(eqGuard op t x y (.string ⟨m.toArray⟩) (.string ⟨n.toArray⟩)).run P w=.ok () w:=by
  intro t x y w;unfold eqGuard;cases op<;>rfl
 have hl:∀ l:List UInt8,(⟨l.toArray⟩:ByteArray).toList=l:=fun l=>by rw [ByteArray.toList_eq]
 cases op<;>simp only [strBin,Option.some.injEq,Prod.mk.injEq,reduceCtorEq] at hb
 case add =>
  obtain ⟨h1,rfl⟩:=hb
  rw [← h1] at hs
  refine ⟨.string ⟨(m++n).toArray⟩,Rd.str (by simpa using hs),fun ho hx hy=>?_⟩
  have h2:(m.length:Int)+n.length≤9223372036854775807:=by
   simp only [maxLen] at hs
   omega
  have h3:(⟨m.toArray⟩++⟨n.toArray⟩:ByteArray)=⟨(m++n).toArray⟩:=by
   apply ByteArray.ext;simp
  have h4:(⟨m.toArray⟩:ByteArray).size=m.length:=rfl
  have h5:(⟨n.toArray⟩:ByteArray).size=n.length:=rfl
  simp [Yd,execOp,ho,hx,hy,hg,binOp,Op.stringOp,h2,h3,h4,h5]
 all_goals
  obtain ⟨-,rfl⟩:=hb
  exact ⟨_,Rd.bool,fun ho hx hy=>by simp [Yd,execOp,ho,hx,hy,hg,binOp,Op.stringOp,hl]⟩
theorem boolBin_has {op:BinOp} {m n:Bool} {side:Prop} {d:D} (hb:boolBin op m n=some (side,d)):∃ v,Rd w (fun _=>False) v d ∧
  (∀ {t u:TypeId} {x y:Operand},o.op=.binOp op t x y u→a.eval x=.bool m→a.eval y=.bool n→P.underlying t=some .bool→Yd P o a w v):=by
 have hg:∀ t x y w,(eqGuard op t x y (.bool m) (.bool n)).run P w=.ok () w:=by
  intro t x y w;unfold eqGuard;cases op<;>rfl
 cases op<;>simp only [boolBin,Option.some.injEq,Prod.mk.injEq,reduceCtorEq] at hb
 all_goals
  obtain ⟨-,rfl⟩:=hb
  exact ⟨_,Rd.bool,fun ho hx hy ht=>by simp [Yd,execOp,ho,hx,hy,hg,binOp,Op.equal,Op.maxDepth,run_equalIn_bool' (P:=P) _ _ _ _ _ ht]⟩
theorem yd_pick {c x y:Operand} (ho:o.op=.pick c x y) {cb p q:Bool} (hc:a.eval c=.bool cb) (hx:cb=true→a.eval x=.bool p) (hy:cb=false→a.eval y=.bool q) :
  Yd P o a w (.bool (pickB cb p q)):=by
 cases cb
 ·simp [Yd,execOp,ho,hc,hy,asBool,pickB]
 ·simp [Yd,execOp,ho,hc,hx,asBool,pickB]
theorem yd_not {x:Operand} {t:TypeId} (ho:o.op=.unOp .not t x) {b:Bool} (hx:a.eval x=.bool b):Yd P o a w (.bool (!b)):=by
 simp [Yd,execOp,ho,hx,Op.unary]
theorem wrap_of_has {k:IntKind} {n:Int} (h:k.has n):k.wrap n=n:=by
 obtain ⟨h1,h2⟩:=h
 cases k<;>simp [IntKind.min,IntKind.max,IntKind.wrap,IntKind.signed,IntKind.bits] at *<;>(first | omega | (split<;>omega))
theorem yd_conv {s d:TypeId} {x:Operand} (ho:o.op=.convert s d x) {k0 k1 k:IntKind} (h1:P.underlying s=some (.int k1)) (h2:P.underlying d=some (.int k)) {n:Int} (hx:a.eval x=.int k0 n) (hn:k0.has n) :
  Yd P o a w (.int k (if k0=k then n else k.wrap n))∧k.has (if k0=k then n else k.wrap n):=by
 have:Yd P o a w (.int k (k.wrap n)):=by simp [Yd,execOp,ho,hx,convert,run_underlying h1,run_underlying h2,Conv.intToInt]
 by_cases hk:k0=k
 ·subst hk;simp only [if_true];rw [wrap_of_has hn] at this;exact ⟨this,hn⟩
 ·simp only [hk,if_false];exact ⟨this,wrap_has _ _⟩
theorem yd_lenSlice {t e:TypeId} {x:Operand} (ho:o.op=.call { callee:=.builtin .len,args:=#[x],argTypes:=#[t] }) (ht:P.underlying t=some (.slice e)) {p:Option Addr} {n c:Nat}
  (hx:a.eval x=.slice p n c):Yd P o a w (.int .i64 n):=by
 simp [Yd,execOp,ho,hx,resolve,invoke,builtin,Builtin.len_,run_underlying ht,goInt]
theorem yd_lenStr {t:TypeId} {x:Operand} (ho:o.op=.call { callee:=.builtin .len,args:=#[x],argTypes:=#[t] }) (ht:P.underlying t=some .string) {l:List UInt8}
  (hx:a.eval x=.string ⟨l.toArray⟩):Yd P o a w (.int .i64 l.length):=by
 simp [Yd,execOp,ho,hx,resolve,invoke,builtin,Builtin.len_,run_underlying ht,goInt];rfl
theorem yd_idxA {t e:TypeId} {x i:Operand} (ho:o.op=.indexAddr t x i) (ht:P.underlying t=some (.slice e)) {sz:Nat} {inf:TypeInfo} (hi:P.info? e=some inf) (hsz:inf.size=sz)
  {b off n c:Nat} (hx:a.eval x=.slice (some ⟨b,off,none⟩) n c) {k:IntKind} {m:Int} (hm:a.eval i=.int k m) (h0 : 0≤m) (h1:m<n):Yd P o a w (.pointer (some ⟨b,off+m.toNat*sz,none⟩)):=by
 have hadd:(⟨b,off,none⟩:Addr).add (m.toNat*sz)=⟨b,off+m.toNat*sz,none⟩:=by
  unfold Addr.add;split<;>simp_all
 simp [Yd,execOp,ho,hx,hm,Instr.indexAt,asIntOf,run_underlying ht,h0,h1,sizeOf,typeInfo,hi,hsz,hadd]
theorem isAgg_cell {t:TypeId} (h:cellT P t=true):(isAgg t).run P w=.ok false w:=by
 unfold cellT at h
 cases hu:P.underlying t with
 | none=>simp [hu] at h
 | some d=>cases d<;>simp [hu] at h<;>simp [isAgg,run_underlying hu]
theorem isAgg_agg {t:TypeId} (h:aggT P t=true):(isAgg t).run P w=.ok true w:=by
 unfold aggT at h
 cases hu:P.underlying t with
 | none=>simp [hu] at h
 | some d=>cases d<;>simp [hu] at h<;>simp [isAgg,run_underlying hu]
theorem sizeOf_run {t:TypeId} {n:Nat} (h:sizeT P t n=true):(sizeOf t).run P w=.ok n w:=by
 unfold sizeT at h
 cases hi:P.info? t with
 | none=>simp [hi] at h
 | some i=>simp [hi] at h;simp [sizeOf,typeInfo,hi,h]
theorem yd_ld {t:TypeId} {x:Operand} (ho:o.op=.load t x) (ht:cellT P t=true) {b off:Nat} (hx:a.eval x=.pointer (some ⟨b,off,none⟩)) {v:Value} (hc:w.cell? ⟨b,off,none⟩=some v):Yd P o a w v:=by
 simp [Yd,execOp,ho,hx,Instr.loadAt,Instr.sureAddr,loadVar,isAgg_cell ht,hc]
theorem yd_lda {t:TypeId} {x:Operand} {n:Nat} (ho:o.op=.load t x) (ht:aggT P t=true) (hn:sizeT P t n=true) {b off:Nat} (hx:a.eval x=.pointer (some ⟨b,off,none⟩)) {cs:List Value}
  (hl:cs.length=n) (hc:∀ j v,cs[j]?=some v→w.cell? ⟨b,off+j,none⟩=some v):Yd P o a w (.agg cs.toArray):=by
 have h:=run_loadCells_list (P:=P) w ⟨b,off,none⟩ cs (fun j v hj=>by
  have hadd:(⟨b,off,none⟩:Addr).add j=⟨b,off+j,none⟩:=by unfold Addr.add;split<;>simp_all
  rw [hadd];exact hc j v hj)
 simp [Yd,execOp,ho,hx,Instr.loadAt,Instr.sureAddr,loadVar,isAgg_agg ht,sizeOf_run hn,← hl,h]
theorem yd_fA {t:TypeId} {x:Operand} {f:Nat} (ho:o.op=.fieldAddr t x f) {off:Nat} {ft:TypeId} (hf:fieldT P t f=some (off,ft)) (hz:sizeT P ft 0=false) (hs:(P.info? ft).isSome=true) {b k:Nat}
  (hx:a.eval x=.pointer (some ⟨b,k,none⟩)):Yd P o a w (.pointer (some ⟨b,k+off,none⟩)):=by
 unfold fieldT at hf
 cases hu:P.underlying t with
 | none=>simp [hu] at hf
 | some d =>
  cases d<;>simp [hu] at hf
  obtain ⟨fl,hfl,h1,h2⟩:=hf
  subst h2;subst h1
  cases hi:P.info? fl.type with
  | none=>simp [hi] at hs
  | some i =>
   have hne:¬ i.size=0:=by simpa [sizeT,hi] using hz
   have hadd:(⟨b,k,none⟩:Addr).add fl.offset=⟨b,k+fl.offset,none⟩:=by unfold Addr.add;split<;>simp_all
   simp [Yd,execOp,ho,hx,Instr.fieldAt,run_underlying hu,hfl,Instr.sureAddr,fieldPlace,sizeOf,typeInfo,hi,hne,hadd]
theorem part_cell {t:TypeId} (ht:cellT P t=true) {cs:Array Value} {off:Nat} (h:off<cs.size):(part t cs off).run P w=.ok (cs.getD off undef) w:=by
 simp [part,isAgg_cell ht,h]
theorem part_agg {t:TypeId} {n:Nat} (ht:aggT P t=true) (hn:sizeT P t n=true) {cs:Array Value} {off:Nat}:(part t cs off).run P w=.ok (.agg (cs.extract off (off+n))) w:=by
 simp [part,isAgg_agg ht,sizeOf_run hn]
theorem yd_fld {t:TypeId} {x:Operand} {f:Nat} (ho:o.op=.field t x f) {off:Nat} {ft:TypeId} (hf:fieldT P t f=some (off,ft)) (hc:cellT P ft=true) {cs:Array Value}
  (hx:a.eval x=.agg cs) (hoff:off<cs.size):Yd P o a w (cs.getD off undef):=by
 unfold fieldT at hf
 cases hu:P.underlying t with
 | none=>simp [hu] at hf
 | some d =>
  cases d<;>simp [hu] at hf
  obtain ⟨fl,hfl,h1,h2⟩:=hf
  subst h2;subst h1
  simp [Yd,execOp,ho,hx,Instr.field,run_underlying hu,hfl,asAgg,part_cell hc hoff]
theorem yd_flda {t:TypeId} {x:Operand} {f:Nat} (ho:o.op=.field t x f) {off n:Nat} {ft:TypeId} (hf:fieldT P t f=some (off,ft)) (hc:aggT P ft=true) (hn:sizeT P ft n=true) {cs:Array Value}
  (hx:a.eval x=.agg cs):Yd P o a w (.agg (cs.extract off (off+n))):=by
 unfold fieldT at hf
 cases hu:P.underlying t with
 | none=>simp [hu] at hf
 | some d =>
  cases d<;>simp [hu] at hf
  obtain ⟨fl,hfl,h1,h2⟩:=hf
  subst h2;subst h1
  simp [Yd,execOp,ho,hx,Instr.field,run_underlying hu,hfl,asAgg,part_agg hc hn]
theorem yd_idxS {t:TypeId} {x i:Operand} (ho:o.op=.index t x i) (ht:P.underlying t=some .string) {l:List UInt8} (hx:a.eval x=.string ⟨l.toArray⟩) {k:IntKind} {m:Int} (hm:a.eval i=.int k m)
  (h0 : 0≤m) (h1:m<l.length):Yd P o a w (.int .u8 (l.getD m.toNat 0).toNat)∧IntKind.u8.has ((l.getD m.toNat 0).toNat:Int):=by
 have hlt:m.toNat<l.length:=by omega
 have hs:(⟨l.toArray⟩:ByteArray)[m.toNat]?=some (l.getD m.toNat 0):=by
  show (if h:m.toNat<(⟨l.toArray⟩:ByteArray).size then some _ else none)=_
  rw [dif_pos (show m.toNat<(⟨l.toArray⟩:ByteArray).size from hlt)]
  simp [List.getD,hlt]
  rfl
 refine ⟨?_,?_⟩
 ·simp [Yd,execOp,ho,hx,hm,Instr.index,asIntOf,run_underlying ht,h0,hs]
 ·generalize l.getD m.toNat 0=c
  have:=c.toNat_lt
  constructor<;>simp [IntKind.min,IntKind.max,IntKind.signed,IntKind.bits]<;>omega
theorem yd_ext {x:Operand} {i:Nat} (ho:o.op=.extract x i) {cs:Array Value} (hx:a.eval x=.tuple cs) (hi:i<cs.size):Yd P o a w (cs.getD i undef):=by
 simp [Yd,execOp,ho,hx,Instr.extract,hi]
theorem yd_nckP {x:Operand} (ho:o.op=.nilCheck x) {p:Addr} (hx:a.eval x=.pointer (some p)):Yd P o a w (.pointer (some p)):=by
 simp [Yd,execOp,ho,hx]
theorem yd_nckF {x:Operand} (ho:o.op=.nilCheck x) {f:FuncId} {l r:Array Value} (hx:a.eval x=.func (.func f) l r):Yd P o a w (.func (.func f) l r):=by
 simp [Yd,execOp,ho,hx]
end
end Go.D3
