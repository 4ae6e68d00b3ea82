/- THE OPERATIONS IN SHORT FORM AND WHAT THE PURE ONES COMPUTE. Generic. -/
import Derived.Test.YtgieggnpnepkfaaGreatDoorTake
namespace Go.D3
open Go
inductive Arg where
 | v (x:D)
 | own (x:D)
 | io (x y:D)
def Arg.pre (w:World) (A:Nat→Prop) (v:Value) (F:Nat→Prop):Arg→Prop
 | .v x=>Rd w A v x∧∀ b,¬ F b
 | .own x=>Own w A v x F
 | .io x _=>ContOk w A (fun _ _=>False) v F x
def Arg.post (w:World) (A:Nat→Prop) (v:Value) (F:Nat→Prop):Arg→Prop
 | .io _ y=>ContOk w A (fun _ _=>False) v F y
 | _=>∀ b,¬ F b
def Ret (P:Program) (f:FuncId) (as:List Arg) (res:D):Prop :=
 ∀ (w:World) (A:Nat→Prop) (vs:Array Value) (Fs:Nat→Nat→Prop),GOk w A→(∀ b,A b→b<w.heap.size)→vs.size=as.length→(∀ (j:Nat) (a:Arg),as[j]?=some a→a.pre w A (vs.getD j undef) (Fs j)) →
  (∀ i j b,i≠j→Fs i b→¬ Fs j b)→(∀ j b,Fs j b→b<w.heap.size∧¬ A b∧j<as.length) →
  Calls P f vs w fun e w'=>∃ (v:Value) (F:Nat→Prop) (Fs':Nat→Nat→Prop),e=.returned v∧w.heap.size≤w'.heap.size ∧
   Own w' (fun b=>A b∨(w.heap.size≤b∧b<w'.heap.size∧¬ F b∧∀ j,¬ Fs' j b)) v res F ∧
   (∀ (j:Nat) (a:Arg),as[j]?=some a→a.post w' (fun b=>A b∨(w.heap.size≤b∧b<w'.heap.size∧¬ F b∧∀ j,¬ Fs' j b)) (vs.getD j undef) (Fs' j)) ∧
   (∀ b,F b→b<w'.heap.size∧(w.heap.size≤b∨∃ j,Fs j b)∧∀ j,¬ Fs' j b)∧(∀ j b,Fs' j b→b<w'.heap.size∧(w.heap.size≤b∨∃ j,Fs j b)∧j<as.length)∧(∀ i j b,i≠j→Fs' i b→¬ Fs' j b) ∧
   (∀ b,b<w.heap.size→(∀ j,¬ Fs j b)→w'.heap[b]?=w.heap[b]?)∧w'.os=w.os∧w'.tape=w.tape∧w'.output=w.output
inductive X where
 | t (i:Nat)
 | v (j:Nat)
 | i (n:Int)
 | k (d:D)
 | g (n:Nat)
 deriving Inhabited
inductive Kp where
 | mv (x:X)
 | pick (c a b:X)
 | bin (op:BinOp) (x y:X)
 | binB (op:BinOp) (x y:X)
 | not (x:X)
 | conv (k:IntKind) (x:X)
 | len (x:X)
 | lenS (x:X)
 | idxA (sz:Nat) (x i:X)
 | ld (a:X)
 | lda (n:Nat) (a:X)
 | fA (off:Nat) (a:X)
 | fld (off:Nat) (x:X)
 | flda (off n:Nat) (x:X)
 | bld (zs:List D) (parts:List (Nat×Nat×X))
 | idxS (x i:X)
 | ext (i:Nat) (x:X)
 | nck (x:X)
 | eqs (neg:Bool) (ks:List Nat) (x y:X)
 | slS (x:X) (lo hi:Option X)
 | sl (x:X) (lo hi:Option X)
 | mkf (f:FuncId) (caps:List X)
 | call (f:FuncId) (xs:List X)
 | box (n:Nat) (x:X)
 | boxv (n:Nat) (x:X)
 | alc (zs:List D)
 | mkS (z:D) (bytes:Nat) (l c:X)
 | bldS (z:D) (n:Nat) (parts:List (Nat×X))
 | asg (j:Nat) (x:X)
 | asgA (j:Nat) (x:X)
 | st (a x:X)
 | stn (n:Nat) (a x:X)
 | stR (n:Nat) (a x:X)
 | app (sz bytes:Nat) (s x:X)
 | calle (f:FuncId) (xs:List X)
 | dyn (x:X) (xs:List X)
 | bo (x:X)
 | cpy (x y:X)
 | boxo (n:Nat) (x:X)
 | apt (sz bytes b s:Nat)
 | callk (f:FuncId) (xs:List X)
 | mkM
 | mlk (ok:Bool) (kk:Nat) (z:D) (m k:X)
 | lenM (x:X)
 | mup (kk:Nat) (m k v:X)
 | cvS (x:X)
 | nilI (neg:Bool) (x:X)
 | rng (x:X)
 | nxt (j:Nat)
 | cvB (x:X)
 | bldT (z:D) (x:X)
 | asgP (j:Nat) (x:X)
 deriving Inhabited
structure SOp where
 g:Option (Nat×Bool)
 k:Kp
 deriving Inhabited
inductive RT where
 | leaf (l:List SOp) (post:List (Nat×Nat))
 | two (i j:Nat) (pm:List Nat) (a b:RT)
 deriving Inhabited
inductive C where
 | skip
 | ops (pre:List Nat) (l:List SOp) (post:List (Nat×Nat))
 | opc (pre:List Nat) (l:List SOp) (post:List (Nat×Nat)) (x:X) (a b:C)
 | opq (pre:List Nat) (l:List SOp) (post:List (Nat×Nat)) (x:X) (a b c:C)
 | alt (pre:List Nat) (t:RT)
 | seq (a b:C)
 | cond (x:X) (a b:C)
 | block (id:Nat) (c:C)
 | loop (c:C)
 | exit (id:Nat)
 | ret
 deriving Inhabited
def D.core:D→D
 | .when _ x=>x.core
 | x=>x
def D.gate:D→Bool
 | .when g x=>g&&x.gate
 | _=>true
mutual
def expo (k:Nat) (p:Path):D→D
 | .int a n=>.int a n
 | .bool b=>.bool b
 | .str s=>.str s
 | .nilp=>.nilp
 | .fn f []=>.fn f []
 | .slice _ _=>.sub k p
 | .mp _ _=>.sub k p
 | .nmp=>.nmp
 | .ifc t x=>.ifc t x
 | .nifc=>.nifc
 | .ptr (_::_)=>.adr k (p++[(0,0)])
 | .agg l=>.agg (expoL k p 0 l)
 | .tup l=>.tup (expoL k p 0 l)
 | .vw x=>x
 | _=>.dead
def expoL (k:Nat) (p:Path) (j:Nat):List D→List D
 | []=>[]
 | x::r=>expo k (p++[(0,j)]) x::expoL k p (j+1) r
end
def opv (k:Nat):D→D
 | .o x=>expo k [] x
 | .box _=>.adr k [(0,0)]
 | .row _ _=>.sub k []
 | c=>c
def cellv (k:Nat) (p:Path):D→D
 | .o x=>expo k p x
 | c=>c
def lookC (k:Nat) (c:D) (p:Path):D :=
 match cellLvl c p with
 | true=>cellv k p (c.at p)
 | false=>expo k p (c.at p)
abbrev PR:=Prop×D
def one (x:D):Option PR:=some (True,x)
def intBin (op:BinOp) (k:IntKind) (a b:Int):Option PR :=
 match op with
 | .add=>some (True,.int k (k.wrap (a+b)))
 | .sub=>some (True,.int k (k.wrap (a-b)))
 | .mul=>some (True,.int k (k.wrap (a*b)))
 | .quo=>some (b≠0,.int k (k.wrap (a.tdiv b)))
 | .rem=>some (b≠0,.int k (a.tmod b))
 | .eql=>some (True,.bool (a == b))
 | .neq=>some (True,.bool (a != b))
 | .lss=>some (True,.bool (decide (a<b)))
 | .leq=>some (True,.bool (decide (a≤b)))
 | .gtr=>some (True,.bool (decide (a > b)))
 | .geq=>some (True,.bool (decide (a≥b)))
 | _=>none
def strBin (op:BinOp) (a b:List UInt8):Option PR :=
 match op with
 | .add=>some (a.length+b.length≤maxLen,.str (a++b))
 | .eql=>some (True,.bool (a == b))
 | .neq=>some (True,.bool (!(a == b)))
 | .lss=>some (True,.bool (Op.bytesLess a b))
 | .leq=>some (True,.bool (Op.bytesLess a b || a == b))
 | .gtr=>some (True,.bool (!(Op.bytesLess a b || a == b)))
 | .geq=>some (True,.bool (!Op.bytesLess a b))
 | _=>none
def boolBin (op:BinOp) (a b:Bool):Option PR :=
 match op with
 | .eql=>some (True,.bool (a == b))
 | .neq=>some (True,.bool (!(a == b)))
 | _=>none
def binR (op:BinOp) (x y:D):Option PR :=
 match x,y with
 | .int k a,.int k' b=>if k=k' then intBin op k a b else none
 | .str a,.str b=>strBin op a b
 | _,_=>none
def binBR (op:BinOp) (x y:D):Option PR :=
 match x,y with
 | .bool a,.bool b=>boolBin op a b
 | _,_=>none
def pickB (c a b:Bool):Bool:=match c with | true=>a | false=>b
def pickR (cg ag bg:Bool) (c a b:D):Option PR :=
 match c,a,b with
 | .bool cb,.bool x,.bool y=>some (cg=true∧(cb=true→ag=true)∧(cb=false→bg=true),.bool (pickB cb x y))
 | _,_,_=>none
def notR (x:D):Option PR :=
 match x with
 | .bool b=>one (.bool (!b))
 | _=>none
def convR (k:IntKind) (x:D):Option PR :=
 match x with
 | .int k0 a=>one (.int k (if k0=k then a else k.wrap a))
 | _=>none
def D.len?:D→Option Nat
 | .slice _ l=>some l.length
 | .nils _=>some 0
 | .row _ l=>some l.length
 | _=>none
def lk (ob:Nat→D) (k:Nat):Option D:=if (ob k).isObj=true then some (ob k) else none
def lenR (ob:Nat→D) (x:D):Option PR :=
 match x with
 | .sub k p=>(lk ob k).bind fun c=>(c.dat p).len?.bind fun n=>one (.int .i64 n)
 | x=>x.len?.bind fun n=>one (.int .i64 n)
def lenSR (x:D):Option PR :=
 match x with
 | .str s=>one (.int .i64 s.length)
 | _=>none
def D.elt (d:D) (i:Nat):List D :=
 match d with
 | .slice z l=>(l.getD i z).cells
 | _=>[]
def idxAR (sz:Nat) (ob:Nat→D) (x i:D):Option PR :=
 match i with
 | .int _ n=>match x with
  | .sub k p=>(lk ob k).bind fun c=>match c with
   | .row _ _=>none
   | c=>(c.dat p).len?.bind fun m=>some (0≤n∧n<m∧((c.dat p).elt n.toNat).length=sz,.adr k (p++[(n.toNat,0)]))
  | x=>x.len?.bind fun m=>some (0≤n∧n<m∧(x.elt n.toNat).length=sz,.ptr (x.elt n.toNat))
 | _=>none
def ldR (ob:Nat→D) (a:D):Option PR :=
 match a with
 | .ptr (x::_)=>one x
 | .adr k p=>(lk ob k).bind fun c=>one (lookC k c p)
 | _=>none
def bump:Path→Nat→Path
 | [],_=>[]
 | [(i,off)],n=>[(i,off+n)]
 | s::p,n=>s::bump p n
def looks (k:Nat) (c:D) (p:Path):Nat→Nat→List D
 | 0,_=>[]
 | n+1,j=>lookC k c (bump p j)::looks k c p n (j+1)
def hass (c:D) (p:Path):Nat→Nat→Prop
 | 0,_=>True
 | n+1,j=>c.hasC (bump p j)∧hass c p n (j+1)
def ldaR (n:Nat) (ob:Nat→D) (a:D):Option PR :=
 match a with
 | .ptr l=>some (n≤l.length,.agg (l.take n))
 | .adr k p=>(lk ob k).bind fun c=>some (hass c p n 0,.agg (looks k c p n 0))
 | _=>none
def fAR (off:Nat) (ob:Nat→D) (a:D):Option PR :=
 match a with
 | .ptr l=>one (.ptr (l.drop off))
 | .adr k p=>(lk ob k).bind fun c=>some (c.hasC (bump p off),.adr k (bump p off))
 | _=>none
def fldR (off:Nat) (x:D):Option PR :=
 match x with
 | .agg l=>some (off<l.length,l.getD off .dead)
 | _=>none
def fldaR (off n:Nat) (x:D):Option PR :=
 match x with
 | .agg l=>some (off+n≤l.length,.agg ((l.drop off).take n))
 | _=>none
def D.cellsOf:D→Option (List D)
 | .agg l=>some l
 | .tup _=>none
 | .dead=>none
 | .when _ _=>none
 | .o _=>none
 | .box _=>none
 | .row _ _=>none
 | .vw _=>none
 | x=>some [x]
def setCells (l:List D) (off:Nat):List D→List D
 | []=>l
 | x::r=>setCells (l.set off x) (off+1) r
def fillR (rd:X→D):List D→List (Nat×Nat×X)→Option (Bool×List D)
 | cs,[]=>some (true,cs)
 | cs,(off,n,x)::r=>(rd x).core.cellsOf.bind fun l =>
  if l.length=n∧off+n≤cs.length then (fillR rd (setCells cs off l) r).bind fun p=>some ((rd x).gate&&p.1,p.2) else none
def idxSR (x i:D):Option PR :=
 match x,i with
 | .str s,.int _ n=>some (0≤n∧n<s.length,.int .u8 (s.getD n.toNat 0).toNat)
 | _,_=>none
def extR (i:Nat) (x:D):Option PR :=
 match x with
 | .tup l=>some (i<l.length,l.getD i .dead)
 | _=>none
def nckR (x:D):Option PR :=
 match x with
 | .ptr l=>one (.ptr l)
 | .adr k p=>one (.adr k p)
 | .fn f caps=>one (.fn f caps)
 | _=>none
def eqvs:List Nat→List D→List D→Option Bool
 | [],[],[]=>some true
 | 0::ks,.int k a::l,.int k' b::r=>if k=k' then (eqvs ks l r).bind fun y=>some (a == b&&y) else none
 | 1::ks,.bool a::l,.bool b::r=>(eqvs ks l r).bind fun y=>some (a == b&&y)
 | 2::ks,.str a::l,.str b::r=>(eqvs ks l r).bind fun y=>some (a == b&&y)
 | _,_,_=>none
def eqsR (neg:Bool) (ks:List Nat) (x y:D):Option PR :=
 match x,y with
 | .agg l,.agg r=>(eqvs ks l r).bind fun b=>some (True,.bool (if neg then !b else b))
 | _,_=>none
def D.cut (l h:Nat):D→Option D
 | .slice z x=>some (.slice z ((x.take h).drop l))
 | .nils z=>some (.slice z [])
 | .str x=>some (.str ((x.take h).drop l))
 | _=>none
def D.esz:D→Nat
 | .slice z _=>z.cells.length
 | .nils z=>z.cells.length
 | _=>0
def D.int?:D→Option Int
 | .int _ n=>some n
 | _=>none
def D.str?:D→Option (List UInt8)
 | .str s=>some s
 | _=>none
def bndR (rd:X→D) (dflt:Nat):Option X→Option (Bool×Int)
 | none=>some (true,dflt)
 | some x=>(rd x).core.int?.bind fun n=>some ((rd x).gate,n)
def slSR (rd:X→D) (x:X) (lo hi:Option X):Option PR :=
 (rd x).core.str?.bind fun s=>(bndR rd 0 lo).bind fun p=>(bndR rd s.length hi).bind fun q =>
   some (((rd x).gate=true∧p.1=true∧q.1=true)∧0≤p.2∧p.2≤q.2∧q.2≤s.length,.str ((s.take q.2.toNat).drop p.2.toNat))
def subOf:D→Option X→Option (Nat×Path)
 | .sub k p,none=>some (k,p)
 | _,_=>none
theorem subOf_some {d:D} {lo:Option X} {k:Nat} {p:Path} (h:subOf d lo=some (k,p)):d=.sub k p∧lo=none:=by
 unfold subOf at h;split at h
 ·injection h with h;injection h with h1 h2;subst h1;subst h2;exact ⟨rfl,rfl⟩
 ·cases h
def slR (rd:X→D) (ob:Nat→D) (x:X) (lo hi:Option X):Option PR:=(subOf (rd x).core lo).elim
 ((rd x).core.len?.bind fun n=>(bndR rd 0 lo).bind fun p=>(bndR rd n hi).bind fun q=>((rd x).core.cut p.2.toNat q.2.toNat).bind fun z =>
   some (((rd x).gate=true∧p.1=true∧q.1=true)∧(rd x).core.esz=1∧0≤p.2∧p.2≤q.2∧q.2≤n,z))
 fun k=>(lk ob k.1).bind fun c=>(c.dat k.2).len?.bind fun n=>(bndR rd n hi).bind fun q =>
  some (((rd x).gate=true∧q.1=true)∧(c.dat k.2).esz=1∧0≤q.2∧q.2≤n,.pre k.1 k.2 q.2.toNat)
def D.adr?:D→Option D
 | .adr k p=>some (.adr k p)
 | .ptr l=>some (.ptr l)
 | _=>none
def capsR (rd:X→D):List X→Option (List D)
 | []=>some []
 | x::r=>(rd x).adr?.bind fun y=>(capsR rd r).bind fun l=>some (y::l)
def g1 (x:D):Option PR→Option PR
 | some (s,d)=>some (x.gate=true∧s,d)
 | none=>none
def g2 (x y:D):Option PR→Option PR
 | some (s,d)=>some ((x.gate=true∧y.gate=true)∧s,d)
 | none=>none
def keyEq (a b:D):Option Bool :=
 match a,b with
 | .int k a,.int k' b=>if k=k' then some (a == b) else none
 | .str a,.str b=>some (a == b)
 | .bool a,.bool b=>some (a == b)
 | _,_=>none
def mfind (k:D):List D→Option (Option Nat)
 | []=>some none
 | e::r=>(keyEq k e).bind fun b=>if b=true then some (some 0) else (mfind k r).bind fun o=>some (o.map (·+1))
def D.mp?:D→Option (List D×List D)
 | .mp ks vs=>some (ks,vs)
 | _=>none
def D.mpn?:D→Option (List D×List D)
 | .mp ks vs=>some (ks,vs)
 | .nmp=>some ([],[])
 | _=>none
def mapOf (ob:Nat→D) (x:D):Option (List D×List D) :=
 match x with
 | .sub k p=>(lk ob k).bind fun c=>(c.dat p).mp?
 | x=>x.mpn?
def D.keyS (kk:Nat):D→Bool
 | .int _ _=>kk == 0
 | .bool _=>kk == 1
 | .str _=>kk == 2
 | _=>false
def mval (z:D) (vs:List D):Option Nat→D
 | some i=>vs.getD i z
 | none=>z
def mlkR (ok:Bool) (kk:Nat) (z:D) (ob:Nat→D) (m k:D):Option PR :=
 (mapOf ob m).bind fun e=>(mfind k e.1).bind fun r=>some (k.keyS kk=true,match ok with | true=>.tup [mval z e.2 r,.bool r.isSome] | false=>mval z e.2 r)
def lenMR (ob:Nat→D) (x:D):Option PR:=(mapOf ob x).bind fun e=>some (True,.int .i64 e.1.length)
def mput (k v:D) (ks vs:List D):Option Nat→List D×List D
 | some i=>(ks,vs.set i v)
 | none=>(ks++[k],vs++[v])
def bytesOf:List D→Option (List UInt8)
 | []=>some []
 | .int .u8 n::r=>(bytesOf r).bind fun l=>some (UInt8.ofNat n.toNat::l)
 | _=>none
def D.bys?:D→Option (List UInt8)
 | .slice _ l=>bytesOf l
 | .row _ l=>bytesOf l
 | .nils _=>some []
 | _=>none
def cvSR (ob:Nat→D) (x:D):Option PR :=
 match x with
 | .sub k p=>(lk ob k).bind fun c=>(c.dat p).bys?.bind fun s=>one (.str s)
 | x=>x.bys?.bind fun s=>one (.str s)
def nilIR (neg:Bool) (x:D):Option PR :=
 match x with
 | .nifc=>some (True,.bool (!neg))
 | .ifc _ _=>some (True,.bool neg)
 | _=>none
def bytesD (s:List UInt8):D:=.slice (.int .u8 0) (s.map fun b=>.int .u8 b.toNat)
def pev (k:Kp) (rd:X→D) (ob:Nat→D):Option PR :=
 match k with
 | .mv x=>g1 (rd x) (one (rd x).core)
 | .pick c a b=>pickR (rd c).gate (rd a).gate (rd b).gate (rd c).core (rd a).core (rd b).core
 | .bin op x y=>g2 (rd x) (rd y) (binR op (rd x).core (rd y).core)
 | .binB op x y=>g2 (rd x) (rd y) (binBR op (rd x).core (rd y).core)
 | .not x=>g1 (rd x) (notR (rd x).core)
 | .conv k x=>g1 (rd x) (convR k (rd x).core)
 | .len x=>g1 (rd x) (lenR ob (rd x).core)
 | .lenS x=>g1 (rd x) (lenSR (rd x).core)
 | .idxA sz x i=>g2 (rd x) (rd i) (idxAR sz ob (rd x).core (rd i).core)
 | .ld a=>g1 (rd a) (ldR ob (rd a).core)
 | .lda n a=>g1 (rd a) (ldaR n ob (rd a).core)
 | .fA off a=>g1 (rd a) (fAR off ob (rd a).core)
 | .fld off x=>g1 (rd x) (fldR off (rd x).core)
 | .flda off n x=>g1 (rd x) (fldaR off n (rd x).core)
 | .bld zs parts=>(fillR rd zs parts).bind fun p=>some (p.1=true,.agg p.2)
 | .idxS x i=>g2 (rd x) (rd i) (idxSR (rd x).core (rd i).core)
 | .ext i x=>g1 (rd x) (extR i (rd x).core)
 | .nck x=>g1 (rd x) (nckR (rd x).core)
 | .eqs neg ks x y=>g2 (rd x) (rd y) (eqsR neg ks (rd x).core (rd y).core)
 | .slS x lo hi=>slSR rd x lo hi
 | .sl x lo hi=>slR rd ob x lo hi
 | .mkf f caps=>(capsR rd caps).bind fun l=>some (True,.fn f l)
 | .mlk ok kk z m k=>g2 (rd m) (rd k) (mlkR ok kk z ob (rd m).core (rd k).core)
 | .lenM x=>g1 (rd x) (lenMR ob (rd x).core)
 | .cvS x=>g1 (rd x) (cvSR ob (rd x).core)
 | .nilI neg x=>g1 (rd x) (nilIR neg (rd x).core)
 | _=>none
end Go.D3
