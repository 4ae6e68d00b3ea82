/- WHAT A TEXT LEAVES TO BE PROVED: 'vcC'. Generic. -/
import Derived.Test.YtclmdejmogmifaaSlim
namespace Go.D3
open Go

/-! ### States: the tracked slots; in a region its operations' results, the newest first -/
structure St where
  env : List D
  n : Nat
  tmp : List D

def nth : List D → Nat → D
  | [], _ => .dead
  | a :: _, 0 => a
  | _ :: l, i + 1 => nth l i

def setN : List D → Nat → D → List D
  | [], _, _ => []
  | _ :: l, 0, x => x :: l
  | a :: l, i + 1, x => a :: setN l i x

def St.cont (st : St) (k : Nat) : D := if k < 1000 then nth st.env k else if k < 1000 + st.n then nth st.tmp (999 + st.n - k) else .dead
def St.put (st : St) (k : Nat) (c : D) : St := if k < 1000 then ⟨setN st.env k c, st.n, st.tmp⟩ else if k < 1000 + st.n then ⟨st.env, st.n, setN st.tmp (999 + st.n - k) c⟩ else st
def St.push (st : St) (c : D) : St := ⟨st.env, st.n + 1, c :: st.tmp⟩
def St.kill (st : St) (q : D → Bool) : St := ⟨killL q st.env, st.n, killL q st.tmp⟩

def St.rd (st : St) : X → D
  | .t i => opv (1000 + i) (st.cont (1000 + i))
  | .v j => opv j (st.cont j)
  | .i n => .int .i64 n
  | .k d => d

/-- References into 'k'; those below its first cells. -/
def qInto (k : Nat) : D → Bool
  | .sub j _ => j == k
  | .adr j _ => j == k
  | _ => false
def qDeep (k : Nat) : D → Bool
  | .sub j p => j == k && !p.isEmpty
  | .adr j p => j == k && (p.length != 1)
  | _ => false
/-- References into a region's results. -/
def qTmp : D → Bool
  | .sub j _ => decide (1000 ≤ j)
  | .adr j _ => decide (1000 ≤ j)
  | _ => false

/-! ### Parts are taken out of objects -/
/-- The part at the path 'p' of the slot 'k' is taken out. -/
def D.o? : D → Option D
  | .o x => some x
  | _ => none

def optVC {α : Type} (x : Option α) (K : α → Prop) : Prop :=
  match x with
  | some a => K a
  | none => False

def takeK (k : Nat) (p : Path) (K : D → St → Prop) (st : St) : Prop :=
  match p with
  | [] => optVC (st.cont k).o? fun x => K x ((st.kill (qInto k)).put k .dead)
  | s :: p => K ((st.cont k).dat (s :: p)) ((st.kill (qDeep k)).put k (((st.kill (qDeep k)).cont k).setAt (s :: p) .dead))

def apart : Path → Path → Bool
  | [], _ => false
  | _, [] => false
  | s :: p, t :: q => if s = t then apart p q else true

/-- Taking 'sub k p' leaves this reference as it is. -/
def apartR (k : Nat) (p : Path) : D → Prop
  | .sub j q => j ≠ k ∨ apart p q = true
  | .adr j q => j ≠ k ∨ apart p q = true
  | _ => True

/-- Taking what 'd' refers to leaves the references of 'r' as they are. -/
def safeR (r : List D) : D → Prop
  | .sub k p => refsL (apartR k p) r
  | _ => True

mutual
/-- 'd' becomes a tree: what it refers to is taken out of its objects. -/
def absK : D → (D → St → Prop) → St → Prop
  | .int k n, K, st => K (.int k n) st
  | .bool b, K, st => K (.bool b) st
  | .str s, K, st => K (.str s) st
  | .nilp, K, st => K .nilp st
  | .fn f [], K, st => K (.fn f []) st
  | .sub k p, K, st => takeK k p K st
  | .agg l, K, st => absL l (fun l' st => K (.agg l') st) st
  | .slice z l, K, st => K (.vw (.slice z l)) st
  | .ptr l, K, st => K (.vw (.ptr l)) st
  | .nils z, K, st => K (.slice z []) st
  | _, _, _ => False
def absL : List D → (List D → St → Prop) → St → Prop
  | [], K, st => K [] st
  | x :: r, K, st => x.refs (safeR r) ∧ absK x (fun x' st => absL r (fun r' st => K (x' :: r') st) st) st
end

/-- The content that holds a tree. -/
def contOf : D → D
  | .vw (.slice z l) => .slice z l
  | .vw (.ptr l) => .ptr l
  | .vw (.agg l) => .agg l
  | .vw _ => .dead
  | .int k n => .int k n
  | .bool b => .bool b
  | .str s => .str s
  | .nilp => .nilp
  | .fn f l => .fn f l
  | .dead => .dead
  | d => .o d

/-! ### Data of operands -/
def mapO (f : D → Option D) : List D → Option (List D)
  | [] => some []
  | x :: r => (f x).bind fun y => (mapO f r).bind fun l => some (y :: l)

def szOk (z : D) : List D → Bool
  | [] => true
  | x :: r => decide (x.cells.length = z.cells.length) && szOk z r

/-- The data that an operand reads as now. -/
def gath (ob : Nat → D) : Nat → D → Option D
  | 0, _ => none
  | n + 1, d => match d with
    | .sub k p => (lk ob k).bind fun c => match c with
      | .row z l => (mapO (gath ob n) l).bind fun l' => if szOk z l' = true then some (.slice z l') else none
      | c => if (c.dat p).isAgg = true then none else some (c.dat p)
    | .adr k p => (lk ob k).bind fun c => match c, p with
      | .box l, [(_, off)] => (mapO (gath ob n) l).bind fun l' => some (.ptr (l'.drop off))
      | _, _ => none
    | .agg l => (mapO (gath ob n) l).bind fun l' => some (.agg l')
    | .o x => some x
    | .nils z => some (.slice z [])
    | .tup _ => none
    | .dead => none
    | .when _ _ => none
    | .box _ => none
    | .row _ _ => none
    | .fn f [] => some (.fn f [])
    | .fn _ _ => none
    | x => some x

def gathL (ob : Nat → D) (rd : X → D) : List X → Option (List D)
  | [] => some []
  | x :: r => (gath ob 4 (rd x).core).bind fun y => (gathL ob rd r).bind fun l => some (y :: l)

def gates (rd : X → D) : List X → Bool
  | [] => true
  | x :: r => (rd x).gate && gates rd r

mutual
/-- No part that is only read. -/
def D.novw : D → Bool
  | .vw _ => false
  | .slice _ l => novwL l
  | .agg l => novwL l
  | .tup l => novwL l
  | .ptr l => novwL l
  | _ => true
def novwL : List D → Bool
  | [] => true
  | x :: r => x.novw && novwL r
end

/-- Operands that refer to no object. -/
def noRef : D → Prop := fun _ => False
def plainL (rd : X → D) : List X → Prop
  | [] => True
  | x :: r => (rd x).core.refs noRef ∧ plainL rd r

/-! ### Operations -/
def onG (g : Option Bool) (p : Prop) : Prop :=
  match g with
  | none => p
  | some b => b = true → p
def whG (g : Option Bool) (v : D) : D :=
  match g with
  | none => v
  | some b => .when b v

/-- A content that is not memory. -/
def D.okc : D → Bool
  | .o _ | .box _ | .row _ _ | .when _ _ => false
  | _ => true

def pureVC (r : Option PR) (g : Option Bool) (K : St → Prop) (st : St) : Prop :=
  match r with
  | none => False
  | some (side, res) => onG g side ∧ res.okc = true ∧ K (st.push (whG g res))

/-- An operation that makes an object. -/
def newVC (r : Option PR) (g : Option Bool) (K : St → Prop) (st : St) : Prop :=
  match g, r with
  | none, some (side, c) => side ∧ K (st.push c)
  | _, _ => False

/-- Data without references. -/
def D.plain? : D → Option D
  | .int k n => some (.int k n)
  | .bool b => some (.bool b)
  | .str s => some (.str s)
  | .nilp => some .nilp
  | .slice z l => some (.slice z l)
  | .ptr l => some (.ptr l)
  | .nils z => some (.slice z [])
  | .fn f [] => some (.fn f [])
  | _ => none
def pcs : List D → Bool
  | [] => true
  | x :: r => x.pc && pcs r

def boxR (n : Nat) (x : D) : Option PR := x.core.cellsOf.bind fun l => some ((x.gate = true ∧ 0 < n ∧ pcs l = true) ∧ l.length = n, .box l)
def boxvR (n : Nat) (x : D) : Option PR := x.core.cellsOf.bind fun l => (mapO D.plain? l).bind fun l' => some (x.gate = true ∧ l.length = n, .ptr l')
def mkSR (z : D) (bytes : Nat) (l c : D) : Option PR :=
  l.core.int?.bind fun a => c.core.int?.bind fun b => some ((l.gate = true ∧ c.gate = true) ∧ 0 ≤ a ∧ a ≤ b ∧ bytes * b ≤ 281474976710656, .o (.slice z (List.replicate a.toNat z)))

/-- Elements: 'n' of them, those of 'parts' as they say, the others zero. -/
def fillE (rd : X → D) (sz : Nat) : List D → List (Nat × X) → Option (Bool × List D)
  | es, [] => some (true, es)
  | es, (i, x) :: r => (rd x).core.cellsOf.bind fun l =>
    if l.length = sz ∧ i < es.length ∧ pcs l = true then (fillE rd sz (setN es i (rd x).core) r).bind fun p => some ((rd x).gate && p.1, p.2) else none

def bldSR (rd : X → D) (z : D) (n : Nat) (parts : List (Nat × X)) : Option PR :=
  match n, parts with
  | 0, [] => some (True, .o (.slice z []))
  | 0, _ => none
  | n + 1, parts => (fillE rd z.cells.length (List.replicate (n + 1) z) parts).bind fun p => some (p.1 = true, .row z p.2)

def newR (k : Kp) (rd : X → D) : Option PR :=
  match k with
  | .box n x => boxR n (rd x)
  | .boxv n x => boxvR n (rd x)
  | .alc zs => some (zs ≠ [], .box zs)
  | .mkS z bytes l c => mkSR z bytes (rd l) (rd c)
  | .bldS z n parts => bldSR rd z n parts
  | _ => none

/-- What follows, out of the rewriter's sight. -/
class KH where
  k : St → Prop

def callVC (P : Program) (f : FuncId) (ds : Option (List D)) (gt : Bool) (pl : Prop) (g : Option Bool) [K : KH] (st : St) : Prop :=
  ∃ l res, ds = some l ∧ onG g (gt = true ∧ Ret P f (l.map .v) res ∧ (res.novw = true ∨ pl)) ∧ K.k (st.push (match g with | none => contOf res | some b => .when b res))

/-! ### Effects -/
def asgK (j : Nat) (x : D) (K : St → Prop) (st : St) : Prop :=
  absK x (fun d st => K (((st.kill (qInto j)).put j (contOf d)).push .dead)) st
/-- A content that is no memory. -/
def D.plainC : D → Bool
  | .o _ | .box _ | .row _ _ | .when _ _ | .dead => false
  | _ => true
def asgAK (j : Nat) (x : D) (K : St → Prop) (st : St) : Prop :=
  x.refs (notInto j) ∧ x.plainC = true ∧ K (((st.kill (qInto j)).put j x).push .dead)

/-- Taking what 'd' refers to leaves the address 'adr k p' as it is. -/
def safeA (k : Nat) (p : Path) : D → Prop
  | .sub j q => j ≠ k ∨ (q ≠ [] ∧ p.length = 1)
  | _ => True

/-- Cells are written one behind the other. -/
def setCs (c : D) (p : Path) : Nat → List D → D
  | _, [] => c
  | j, y :: r => setCs (c.setAt (bump p j) (if cellLvl c (bump p j) = true then contOf y else y)) p (j + 1) r
def okCs (c : D) (p : Path) : Nat → List D → Prop
  | _, [] => True
  | j, y :: r => c.hasC (bump p j) ∧ y.isAgg = false ∧ okCs c p (j + 1) r

def storeK (n : Nat) (a x : D) (K : St → Prop) (st : St) : Prop :=
  match a with
  | .adr k p => optVC x.cellsOf fun l => l.length = n ∧ refsL (safeA k p) l ∧ absL l (fun l' st => okCs ((st.kill (qDeep k)).cont k) p 0 l' ∧
        K (((st.kill (qDeep k)).put k (setCs ((st.kill (qDeep k)).cont k) p 0 l')).push .dead)) st
  | _ => False

def D.scal : D → Bool
  | .int _ _ | .bool _ | .str _ => true
  | _ => false

def D.els? : D → Option (List D)
  | .slice _ l => some l
  | .nils _ => some []
  | _ => none

/-- The elements that are appended: data that are numbers, truth values or texts. -/
def srcOf (st : St) (x : D) : Option (List D) :=
  match x with
  | .sub k p => (lk st.cont k).bind fun c => (c.dat p).els?
  | x => x.els?

def D.appL (y : D) (M : List D) : D :=
  match y with
  | .slice z L => .slice z (L ++ M)
  | y => y

def D.row? : D → Option (List D)
  | .row _ l => some l
  | _ => none

def isRow (st : St) (x : D) : Option (List D) :=
  match x with
  | .sub k [] => (st.cont k).row?
  | _ => none

/-- The tree that is appended to is taken out. -/
def baseK (s : D) (K : D → St → Prop) (st : St) : Prop :=
  match s with
  | .sub k p => takeK k p K st
  | .nils z => K (.slice z []) st
  | _ => False

def appSrc (st : St) (x : D) : Option (List D ⊕ List D) :=
  match isRow st x with
  | some l => some (.inl l)
  | none => (srcOf st x).bind fun M => some (.inr M)

/-- Elements of 'sz' cells. -/
def okSz (sz : Nat) : List D → Prop
  | [] => True
  | e :: r => e.cells.length = sz ∧ okSz sz r

def appK (sz bytes : Nat) (s x : D) (K : St → Prop) (st : St) : Prop :=
  optVC (appSrc st x) fun src => match src with
  | .inl l => okSz sz l ∧ refsL (safeR [s]) l ∧ absL l (fun M st => baseK s (fun y st => y.esz = sz ∧ optVC y.len? fun m => (m + M.length) * bytes ≤ 140737488355328 ∧ K (st.push (.o (y.appL M)))) st) st
  | .inr M => (∀ e ∈ M, e.scal = true) ∧ sz = 1 ∧ x.refs (safeR [s]) ∧ baseK s (fun y st => y.esz = sz ∧ optVC y.len? fun m => (m + M.length) * bytes ≤ 140737488355328 ∧ K (st.push (.o (y.appL M)))) st

/-- One operation. -/
def opVC (P : Program) (k : Kp) (g : Option Bool) (K : St → Prop) (st : St) : Prop :=
  match k with
  | .asg j x => g = none ∧ (st.rd x).gate = true ∧ asgK j (st.rd x).core K st
  | .asgA j x => g = none ∧ (st.rd x).gate = true ∧ asgAK j (st.rd x).core K st
  | .call f xs => @callVC P f (gathL st.cont st.rd xs) (gates st.rd xs) (plainL st.rd xs) g ⟨K⟩ st
  | .st a x => g = none ∧ ((st.rd a).gate && (st.rd x).gate) = true ∧ storeK 1 (st.rd a).core (st.rd x).core K st
  | .stn n a x => g = none ∧ ((st.rd a).gate && (st.rd x).gate) = true ∧ storeK n (st.rd a).core (st.rd x).core K st
  | .app sz bytes s x => g = none ∧ ((st.rd s).gate && (st.rd x).gate) = true ∧ appK sz bytes (st.rd s).core (st.rd x).core K st
  | .calle _ _ => False
  | .dyn _ _ => False
  | .box n x => newVC (newR (.box n x) st.rd) g K st
  | .boxv n x => newVC (newR (.boxv n x) st.rd) g K st
  | .alc zs => newVC (newR (.alc zs) st.rd) g K st
  | .mkS z b l c => newVC (newR (.mkS z b l c) st.rd) g K st
  | .bldS z n ps => newVC (newR (.bldS z n ps) st.rd) g K st
  | k => pureVC (pev k st.rd st.cont) g K st

def D.bool? : D → Option Bool
  | .bool b => some b
  | _ => none
def gd (c : D) (want : Bool) : Option Bool := c.core.bool?.bind fun b => some (c.gate && (if want then b else !b))

def guardVC (v : Option Bool) (K : Bool → Prop) : Prop :=
  match v with
  | some b => K b
  | none => False

/-- The operations of a region, in the order of the text. -/
def vcOps (P : Program) (K : St → Prop) : List SOp → St → Prop
  | [], st => K st
  | ⟨none, k⟩ :: r, st => opVC P k none (vcOps P K r) st
  | ⟨some (j, want), k⟩ :: r, st => guardVC (gd (st.rd (.t j)) want) fun b => opVC P k (some b) (vcOps P K r) st

/-! ### Texts -/
structure Ex where
  ex : Nat → List D → Prop
  ret : List D → Prop

def condVC (v : D) (A B : Prop) : Prop :=
  match v with
  | .bool b => (b = true → A) ∧ (b = false → B)
  | _ => False

/-- A region begins: the slots 'pre' are forgotten. -/
def begS : List Nat → St → St
  | [], st => st
  | j :: r, st => begS r ((st.kill (qInto j)).put j .dead)

/-- A region's results go to tracked slots. -/
def endS : List (Nat × Nat) → St → St
  | [], st => st
  | (j, i) :: r, st => endS r ((((st.kill (qInto j)).kill (qInto (1000 + i))).put j ((((st.kill (qInto j)).kill (qInto (1000 + i)))).cont (1000 + i))).put (1000 + i) .dead)

def fin (post : List (Nat × Nat)) (st : St) : List D := ((endS post st).kill qTmp).env


class LH where
  body : (List D → Prop) → Ex → List D → Prop
  E : Ex

def loopVC [h : LH] (env : List D) : Prop :=
  ∃ (js : List Nat) (α : Type) (S : α → List D) (I : α → Prop) (μ : α → Nat) (x0 : α), I x0 ∧ (begS js ⟨env, 0, []⟩).env = S x0 ∧ ∀ x, I x → h.body (fun env' => ∃ x', I x' ∧ μ x' < μ x ∧ (begS js ⟨env', 0, []⟩).env = S x') h.E (S x)

/-- Slots are written. -/
def sets (env : List D) : List (Nat × D) → List D
  | [] => env
  | (j, c) :: r => sets (setN env j c) r

/-- A loop: 'js' are the slots that are forgotten between rounds, 'f' tells what the changing slots hold. -/
theorem loop_set {body : (List D → Prop) → Ex → List D → Prop} {E : Ex} {env : List D} {α : Type} (js : List Nat) (f : α → List (Nat × D)) (I : α → Prop) (μ : α → Nat) (x0 : α) {env0 : List D} (h0 : (begS js ⟨env, 0, []⟩).env = env0)
    (hI : I x0) (he : env0 = sets env0 (f x0)) (h : ∀ x, I x → body (fun env' => ∃ x', I x' ∧ μ x' < μ x ∧ (begS js ⟨env', 0, []⟩).env = sets env0 (f x')) E (sets env0 (f x))) : @loopVC ⟨body, E⟩ env :=
  ⟨js, α, fun x => sets env0 (f x), I, μ, x0, hI, by rw [h0]; exact he, h⟩

/-- A call whose contract is known. -/
theorem call_of {P : Program} {f : FuncId} {pl : Prop} {K : St → Prop} {st : St} {as : List Arg} {ds : List D} {res : D} (hR : Ret P f as res) (ha : as = ds.map .v) (hn : res.novw = true ∨ pl) (hK : K (st.push (contOf res))) : @callVC P f (some ds) true pl none ⟨K⟩ st :=
  ⟨ds, res, rfl, ⟨rfl, ha ▸ hR, hn⟩, hK⟩
theorem callg_of {P : Program} {f : FuncId} {gt : Bool} {pl : Prop} {K : St → Prop} {st : St} {as : List Arg} {ds : List D} {res : D} {b : Bool} (hR : b = true → Ret P f as res) (ha : as = ds.map .v) (hgt : b = true → gt = true) (hn : res.novw = true ∨ pl) (hK : K (st.push (.when b res))) :
    @callVC P f (some ds) gt pl (some b) ⟨K⟩ st := ⟨ds, res, rfl, fun hb => ⟨hgt hb, ha ▸ hR hb, hn⟩, hK⟩

def vcC (P : Program) : C → (List D → Prop) → Ex → List D → Prop
  | .skip, K, _, env => K env
  | .ops pre l post, K, _, env => vcOps P (fun st => K (fin post st)) l (begS pre ⟨env, 0, []⟩)
  | .opc pre l post x a b, K, E, env => vcOps P (fun st => (st.rd x).gate = true ∧ condVC (st.rd x).core (vcC P a K E (fin post st)) (vcC P b K E (fin post st))) l (begS pre ⟨env, 0, []⟩)
  | .opq pre l post x a b c, K, E, env => vcOps P (fun st => (st.rd x).gate = true ∧ condVC (st.rd x).core (vcC P a (vcC P c K E) E (fin post st)) (vcC P b (vcC P c K E) E (fin post st))) l (begS pre ⟨env, 0, []⟩)
  | .seq a b, K, E, env => vcC P a (vcC P b K E) E env
  | .cond x a b, K, E, env => condVC ((⟨env, 0, []⟩ : St).rd x) (vcC P a K E env) (vcC P b K E env)
  | .block id c, K, E, env => vcC P c K ⟨fun i s => if i = id then K s else E.ex i s, E.ret⟩ env
  | .loop c, _, E, env => @loopVC ⟨vcC P c, E⟩ env
  | .exit id, _, E, env => E.ex id env
  | .ret, _, E, env => E.ret env

end Go.D3
