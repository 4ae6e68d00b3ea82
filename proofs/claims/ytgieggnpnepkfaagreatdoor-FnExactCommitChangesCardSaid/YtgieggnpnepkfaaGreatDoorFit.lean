/- WHEN A TEXT OF THE MODEL HAS A SHORT FORM. Generic in the program 'P';decided by evaluation. -/
import Derived.Test.YtgieggnpnepkfaaGreatDoorExpo
import Derived.Orders
namespace Go.D3
open Go
def eqL:List UInt8→List UInt8→Bool
 | [],[]=>true
 | a::l,b::r=>a == b&&eqL l r
 | _,_=>false
def isX (ds:List (Option Nat)) (tr:List Nat) (x:Operand) (y:X):Bool :=
 match x,y with
 | .tmp t,.t i=>decide (ds[i]?=some (some t))
 | .tmp t,.v j=>decide (tr[j]?=some t)
 | .const (.int k n),.i m=>decide (k=.i64)&&decide (n=m)&&okInt k n
 | .const (.int k n),.k (.int k' m)=>decide (k=k')&&decide (n=m)&&okInt k n
 | .const (.bool b),.k (.bool c)=>b == c
 | .const (.string s),.k (.str l)=>eqL s.data.toList l&&decide (l.length≤65536)
 | .const (.slice none 0 0),.k (.nils _)=>true
 | .const (.pointer none),.k .nilp=>true
 | .func f,.k (.fn f' [])=>f == f'
 | .global g,.g n=>g == n&&(gl n).isSome
 | .const .nilIface,.k .nifc=>true
 | _,_=>false
def isXs (ds:List (Option Nat)) (tr:List Nat):List Operand→List X→Bool
 | [],[]=>true
 | x::l,y::r=>isX ds tr x y&&isXs ds tr l r
 | _,_=>false
def isXo (ds:List (Option Nat)) (tr:List Nat):Option Operand→Option X→Bool
 | none,none=>true
 | some x,some y=>isX ds tr x y
 | _,_=>false
def zeroC (v:Value) (d:D):Bool :=
 match v,d with
 | .int k n,.int k' m=>decide (k=k')&&decide (n=m)&&okInt k n
 | .bool b,.bool c=>b == c
 | .string s,.str []=>s.data.toList.isEmpty
 | .nilFunc,.dead=>true
 | .slice none 0 0,.slice _ []=>true
 | .pointer none,.nilp=>true
 | .map none,.nmp=>true
 | .nilIface,.nifc=>true
 | _,_=>false
def zeroCs:List Value→List D→Bool
 | [],[]=>true
 | v::l,d::r=>zeroC v d&&zeroCs l r
 | _,_=>false
def zeroT (P:Program) (t:TypeId) (zs:List D):Bool :=
 match P.info? t with
 | some i=>match i.zero with
  | some z=>zeroCs z.cells.toList zs&&decide (i.size=zs.length)
  | none=>false
 | none=>false
def unnil:D→D
 | .nils z=>.slice z []
 | d=>d
def kindT (P:Program) (t:TypeId) (k:Nat):Bool:=match P.underlying t,k with
 | some (.int _),0=>true
 | some .bool,1=>true
 | some .string,2=>true
 | _,_=>false
def eqFields (P:Program):Nat→List Field→List Nat→Bool
 | _,[],[]=>true
 | i,f::r,k::ks=>f.name != "_"&&decide (f.offset=i)&&kindT P f.type k&&eqFields P (i+1) r ks
 | _,_,_=>false
def isParts (P:Program) (ds:List (Option Nat)) (tr:List Nat) (t:TypeId):List (Nat×Operand)→List (Nat×Nat×X)→Bool
 | [],[]=>true
 | (i,x)::l,(off,n,y)::r=>(match fieldT P t i with
     | some (o,ft)=>decide (o=off)&&sizeT P ft n
     | none=>false)&&isX ds tr x y&&isParts P ds tr t l r
 | _,_=>false
def fieldsOk (P:Program) (t:TypeId):Bool:=match P.underlying t with
 | some (.struct fs)=>fs.toList.all fun f=>(P.info? f.type).isSome
 | _=>false
def isRowParts (ds:List (Option Nat)) (tr:List Nat):List (Nat×Operand)→List (Nat×X)→Bool
 | [],[]=>true
 | (i,x)::l,(j,y)::r=>i == j&&isX ds tr x y&&isRowParts ds tr l r
 | _,_=>false
def opMove:Op→Option Operand
 | .move x=>some x
 | .assign x=>some x
 | _=>none
def opPick:Op→Option (Operand×Operand×Operand)
 | .pick c a b=>some (c,a,b)
 | _=>none
def opBin:Op→Option (BinOp×TypeId×Operand×Operand)
 | .binOp op t x y _=>some (op,t,x,y)
 | _=>none
def opNot:Op→Option Operand
 | .unOp .not _ x=>some x
 | _=>none
def opConv:Op→Option (TypeId×TypeId×Operand)
 | .convert s d x=>some (s,d,x)
 | _=>none
def opBuiltin (b:Builtin):Op→Option (List Operand×List TypeId)
 | .call c=>match c.callee with
  | .builtin b'=>if b=b' then some (c.args.toList,c.argTypes.toList) else none
  | _=>none
 | _=>none
def opCall:Op→Option (FuncId×List Operand)
 | .call c=>match c.callee with
  | .value (.func f)=>some (f,c.args.toList)
  | _=>none
 | _=>none
def opDyn:Op→Option (Operand×List Operand)
 | .call c=>match c.callee with
  | .value x=>some (x,c.args.toList)
  | _=>none
 | _=>none
def opIdxA:Op→Option (TypeId×Operand×Operand)
 | .indexAddr t x i=>some (t,x,i)
 | _=>none
def opLoad:Op→Option (TypeId×Operand)
 | .load t x=>some (t,x)
 | _=>none
def opStore:Op→Option (TypeId×Operand×Operand)
 | .store t x y=>some (t,x,y)
 | _=>none
def opFA:Op→Option (TypeId×Operand×Nat)
 | .fieldAddr t x f=>some (t,x,f)
 | _=>none
def opFld:Op→Option (TypeId×Operand×Nat)
 | .field t x f=>some (t,x,f)
 | _=>none
def opBld:Op→Option (TypeId×Array (Nat×Operand))
 | .build t ps=>some (t,ps)
 | _=>none
def opIndex:Op→Option (TypeId×Operand×Operand)
 | .index t x i=>some (t,x,i)
 | _=>none
def opExt:Op→Option (Operand×Nat)
 | .extract x i=>some (x,i)
 | _=>none
def opNck:Op→Option Operand
 | .nilCheck x=>some x
 | _=>none
def opBox:Op→Option (TypeId×Operand)
 | .box t x=>some (t,x)
 | _=>none
def opAlloc:Op→Option TypeId
 | .alloc t=>some t
 | _=>none
def opMkS:Op→Option (TypeId×Operand×Operand)
 | .makeSlice t x y=>some (t,x,y)
 | _=>none
def opBldS:Op→Option (TypeId×Nat×Array (Nat×Operand))
 | .buildSlice t n ps=>some (t,n,ps)
 | _=>none
def opSlice:Op→Option (TypeId×Operand×Option Operand×Option Operand)
 | .slice t x lo hi none=>some (t,x,lo,hi)
 | _=>none
def opMkM:Op→Option TypeId
 | .makeMap t none=>some t
 | _=>none
def opLookup:Op→Option (TypeId×Operand×Operand×Bool)
 | .lookup t x i ok=>some (t,x,i,ok)
 | _=>none
def opMup:Op→Option (TypeId×Operand×Operand×Operand)
 | .mapUpdate t m k v=>some (t,m,k,v)
 | _=>none
def mapT (P:Program) (t:TypeId):Option (TypeId×TypeId):=match P.underlying t with
 | some (.map k e)=>some (k,e)
 | _=>none
def zeroV (P:Program) (t:TypeId) (d:D):Bool:=match P.info? t with
 | some i=>match i.zero with
  | some z=>zeroC z d&&d.scal
  | none=>false
 | none=>false
def opRng:Op→Option (TypeId×Operand)
 | .range t x=>some (t,x)
 | _=>none
def opNxt:Op→Option Operand
 | .next x true=>some x
 | _=>none
def opMkf:Op→Option (FuncId×Array Operand×Array Operand)
 | .makeFunc (.func f) first caps=>some (f,first,caps)
 | _=>none
def isK (P:Program) (ds:List (Option Nat)) (tr:List Nat) (o:Oper):Kp→Bool
 | .mv y | .bo y | .asg _ y | .asgA _ y | .asgP _ y=>match opMove o.op with
  | some x=>isX ds tr x y
  | none=>false
 | .pick c a b=>match opPick o.op with
  | some (c',a',b')=>isX ds tr c' c&&isX ds tr a' a&&isX ds tr b' b
  | none=>false
 | .bin op x y=>match opBin o.op with
  | some (op',_,x',y')=>decide (op=op')&&isX ds tr x' x&&isX ds tr y' y
  | none=>false
 | .binB op x y=>match opBin o.op with
  | some (op',t,x',y')=>decide (op=op')&&isX ds tr x' x&&isX ds tr y' y&&(match P.underlying t with | some .bool=>true | _=>false)
  | none=>false
 | .not x=>match opNot o.op with
  | some x'=>isX ds tr x' x
  | none=>false
 | .conv k x=>match opConv o.op with
  | some (s,d,x')=>isX ds tr x' x&&(match P.underlying s,P.underlying d with | some (.int _),some (.int k')=>decide (k=k') | _,_=>false)
  | none=>false
 | .len x=>match opBuiltin .len o.op with
  | some ([x'],[t])=>isX ds tr x' x&&(sliceT P t).isSome
  | _=>false
 | .lenS x=>match opBuiltin .len o.op with
  | some ([x'],[t])=>isX ds tr x' x&&(match P.underlying t with | some .string=>true | _=>false)
  | _=>false
 | .idxA sz x i=>match opIdxA o.op with
  | some (t,x',i')=>isX ds tr x' x&&isX ds tr i' i&&decide (0<sz)&&(match sliceT P t with | some e=>sizeT P e sz | none=>false)
  | none=>false
 | .ld a=>match opLoad o.op with
  | some (t,a')=>isX ds tr a' a&&cellT P t
  | none=>false
 | .lda n a=>match opLoad o.op with
  | some (t,a')=>isX ds tr a' a&&aggT P t&&sizeT P t n
  | none=>false
 | .fA off a=>match opFA o.op with
  | some (t,a',f)=>isX ds tr a' a&&(match fieldT P t f with | some (o,ft)=>decide (o=off)&&!sizeT P ft 0&&(P.info? ft).isSome | none=>false)
  | none=>false
 | .fld off x=>match opFld o.op with
  | some (t,x',f)=>isX ds tr x' x&&(match fieldT P t f with | some (o,ft)=>decide (o=off)&&cellT P ft | none=>false)
  | none=>false
 | .flda off n x=>match opFld o.op with
  | some (t,x',f)=>isX ds tr x' x&&(match fieldT P t f with | some (o,ft)=>decide (o=off)&&aggT P ft&&sizeT P ft n | none=>false)
  | none=>false
 | .bld zs parts=>match opBld o.op with
  | some (t,ps)=>zeroT P t (zs.map unnil)&&isParts P ds tr t ps.toList parts&&fieldsOk P t
  | none=>false
 | .idxS x i=>match opIndex o.op with
  | some (t,x',i')=>isX ds tr x' x&&isX ds tr i' i&&(match P.underlying t with | some .string=>true | _=>false)
  | none=>false
 | .ext i x=>match opExt o.op with
  | some (x',i')=>isX ds tr x' x&&i == i'
  | none=>false
 | .nck x=>match opNck o.op with
  | some x'=>isX ds tr x' x
  | none=>false
 | .eqs neg ks x y=>match opBin o.op with
  | some (op,t,x',y')=>decide (op=if neg then .neq else .eql)&&isX ds tr x' x&&isX ds tr y' y&&(match P.underlying t with | some (.struct fs)=>eqFields P 0 fs.toList ks&&!P.stoodInHeld t | _=>false)&&!P.eqGuardType P.depth t
  | none=>false
 | .call f xs=>match opCall o.op with
  | some (f',as)=>f == f'&&isXs ds tr as xs&&bodyF P f
  | none=>false
 | .calle f xs=>match opCall o.op with
  | some (f',as)=>f == f'&&isXs ds tr as xs&&bodyF P f
  | none=>false
 | .callk f xs=>match opCall o.op with
  | some (f',as)=>f == f'&&isXs ds tr as xs&&bodyF P f
  | none=>false
 | .box n x=>match opBox o.op with
  | some (e,x')=>isX ds tr x' x&&sizeT P e n
  | none=>false
 | .boxv n x | .boxo n x=>match opBox o.op with
  | some (e,x')=>isX ds tr x' x&&sizeT P e n
  | none=>false
 | .alc zs=>match opAlloc o.op with
  | some t=>zeroT P t (zs.map unnil)
  | none=>false
 | .mkS z bytes l c=>match opMkS o.op with
  | some (t,l',c')=>isX ds tr l' l&&isX ds tr c' c&&decide (0<z.cells.length)&&(match sliceT P t with | some e=>zeroT P e z.cells&&bytesT P e bytes&&decide (0<bytes) | none=>false)
  | none=>false
 | .bldS z n parts=>match opBldS o.op with
  | some (t,n',ps)=>n == n'&&isRowParts ds tr ps.toList parts&&decide (0<z.cells.length)&&decide (n*z.cells.length≤16777216)&&(match sliceT P t with | some e=>zeroT P e z.cells | none=>false)
  | none=>false
 | .bldT z x=>match opBldS o.op with
  | some (t,n',ps)=>decide (n'=1)&&isRowParts ds tr ps.toList [(0,x)]&&decide (0<z.cells.length)&&decide (z.cells.length≤16777216)&&(match sliceT P t with | some e=>zeroT P e z.cells | none=>false)
  | none=>false
 | .st a x=>match opStore o.op with
  | some (t,a',x')=>isX ds tr a' a&&isX ds tr x' x&&sizeT P t 1
  | none=>false
 | .stn n a x=>match opStore o.op with
  | some (t,a',x')=>isX ds tr a' a&&isX ds tr x' x&&sizeT P t n
  | none=>false
 | .stR n a x=>match opStore o.op with
  | some (t,a',x')=>isX ds tr a' a&&isX ds tr x' x&&sizeT P t n
  | none=>false
 | .app sz bytes s x=>match opBuiltin .append o.op with
  | some ([s',x'],[t,t'])=>isX ds tr s' s&&isX ds tr x' x&&t == t'&&(match sliceT P t with
   | some e=>bytesT P e bytes&&(match P.info? e with | some i=>decide (0<sz)&&decide (0<bytes)&&decide (i.size=sz)&&i.zero.any (fun z=>decide (z.cells.size=i.size)) | none=>false) | none=>false)
  | _=>false
 | .apt sz bytes b s=>match opBuiltin .append o.op with
  | some ([s',x'],[t,t'])=>isX ds tr s' (.t b)&&isX ds tr x' (.t s)&&t == t'&&(match sliceT P t with
   | some e=>bytesT P e bytes&&(match P.info? e with | some i=>decide (0<sz)&&decide (0<bytes)&&decide (i.size=sz)&&i.zero.any (fun z=>decide (z.cells.size=i.size)) | none=>false) | none=>false)
  | _=>false
 | .slS x lo hi=>match opSlice o.op with
  | some (t,x',lo',hi')=>isX ds tr x' x&&isXo ds tr lo' lo&&isXo ds tr hi' hi&&(match P.underlying t with | some .string=>true | _=>false)
  | none=>false
 | .sl x lo hi=>match opSlice o.op with
  | some (t,x',lo',hi')=>isX ds tr x' x&&isXo ds tr lo' lo&&isXo ds tr hi' hi&&(match P.underlying t with | some (.slice e)=>sizeT P e 1 | _=>false)
  | none=>false
 | .mkf f caps=>match opMkf o.op with
  | some (f',first,captured)=>f == f'&&first.isEmpty&&isXs ds tr captured.toList caps
  | none=>false
 | .cpy x y=>match opBuiltin .copy o.op with
  | some ([x',y'],[t,t'])=>isX ds tr x' x&&isX ds tr y' y&&(match sliceT P t,sliceT P t' with | some e,some _=>sizeT P e 1 | _,_=>false)
  | _=>false
 | .dyn x xs=>match opDyn o.op with
  | some (x',as)=>isX ds tr x' x&&isXs ds tr as xs
  | none=>false
 | .mkM=>(opMkM o.op).isSome
 | .mlk ok kk z m k=>match opLookup o.op with
  | some (t,m',k',ok')=>isX ds tr m' m&&isX ds tr k' k&&ok == ok'&&(match mapT P t with | some (kt,e)=>kindT P kt kk&&zeroV P e z | none=>false)
  | none=>false
 | .lenM x=>match opBuiltin .len o.op with
  | some ([x'],[t])=>isX ds tr x' x&&(mapT P t).isSome
  | _=>false
 | .mup kk m k v=>match opMup o.op with
  | some (t,m',k',v')=>isX ds tr m' m&&isX ds tr k' k&&isX ds tr v' v&&(match mapT P t with | some (kt,_)=>kindT P kt kk | none=>false)
  | none=>false
 | .cvS x=>match opConv o.op with
  | some (s,d,x')=>isX ds tr x' x&&(match P.underlying s,P.underlying d with
   | some (.slice e),some .string=>(match P.underlying e with | some (.int .u8)=>true | _=>false)
   | _,_=>false)
  | none=>false
 | .cvB x=>match opConv o.op with
  | some (s,d,x')=>isX ds tr x' x&&(match P.underlying s,P.underlying d with
   | some .string,some (.slice e)=>(match P.underlying e with | some (.int .u8)=>true | _=>false)
   | _,_=>false)
  | none=>false
 | .nilI neg x=>match opBin o.op with
  | some (op',t,x',.const .nilIface)=>decide (op'=if neg then .neq else .eql)&&isX ds tr x' x&&(match P.underlying t with | some (.interface _)=>true | _=>false)
  | _=>false
 | .rng x=>match opRng o.op with
  | some (t,x')=>isX ds tr x' x&&(match P.underlying t with | some .string=>true | _=>false)
  | none=>false
 | .nxt j=>match opNxt o.op with
  | some x'=>isX ds tr x' (.v j)
  | none=>false
def closure (acc:List Nat) (o:Oper):Nat:=o.after.toList.foldl (fun s e=>if Region.binds .any e=true then s ||| (1 <<< e.on ||| acc.getD e.on 0) else s) 0
def closures:List Nat→List Oper→List Nat
 | acc,[]=>acc
 | acc,o::r=>closures (acc++[closure acc o]) r
def inC (cl:List Nat) (i x:Nat):Bool:=(cl.getD i 0).testBit x
def readsX:X→List Nat
 | .t n=>[n]
 | _=>[]
def readsXo:Option X→List Nat
 | some x=>readsX x
 | none=>[]
def Kp.reads:Kp→List Nat
 | .mv x | .bo x | .asg _ x | .asgA _ x | .asgP _ x | .not x | .conv _ x | .len x | .lenS x | .ld x | .lda _ x | .fA _ x | .fld _ x | .flda _ _ x | .ext _ x | .nck x | .box _ x | .boxv _ x | .boxo _ x | .bldT _ x | .lenM x | .cvS x | .nilI _ x | .rng x | .cvB x=>readsX x
 | .alc _=>[]
 | .mkM | .nxt _=>[]
 | .apt _ _ b s=>[b,s]
 | .pick a b c | .mup _ a b c=>readsX a++readsX b++readsX c
 | .bin _ x y | .binB _ x y | .idxA _ x y | .idxS x y | .eqs _ _ x y | .mkS _ _ x y | .st x y | .stn _ x y | .stR _ x y | .cpy x y | .app _ _ x y | .mlk _ _ _ x y=>readsX x++readsX y
 | .bld _ ps=>ps.flatMap fun p=>readsX p.2.2
 | .bldS _ _ ps=>ps.flatMap fun p=>readsX p.2
 | .call _ xs | .callk _ xs | .calle _ xs | .mkf _ xs=>xs.flatMap readsX
 | .slS x lo hi | .sl x lo hi=>readsX x++readsXo lo++readsXo hi
 | .dyn x xs=>readsX x++xs.flatMap readsX
def Kp.xs:Kp→List X
 | .mv x | .bo x | .asg _ x | .asgA _ x | .asgP _ x | .not x | .conv _ x | .len x | .lenS x | .ld x | .lda _ x | .fA _ x | .fld _ x | .flda _ _ x | .ext _ x | .nck x | .box _ x | .boxv _ x | .boxo _ x | .bldT _ x | .lenM x | .cvS x | .nilI _ x | .rng x | .cvB x=>[x]
 | .alc _=>[]
 | .mkM=>[]
 | .nxt j=>[.v j]
 | .apt _ _ b s=>[.t b,.t s]
 | .pick a b c | .mup _ a b c=>[a,b,c]
 | .bin _ x y | .binB _ x y | .idxA _ x y | .idxS x y | .eqs _ _ x y | .mkS _ _ x y | .st x y | .stn _ x y | .stR _ x y | .cpy x y | .app _ _ x y | .mlk _ _ _ x y=>[x,y]
 | .bld _ ps=>ps.map (·.2.2)
 | .bldS _ _ ps=>ps.map (·.2)
 | .call _ xs | .callk _ xs | .calle _ xs | .mkf _ xs=>xs
 | .slS x lo hi | .sl x lo hi=>x::lo.toList++hi.toList
 | .dyn x xs=>x::xs
def Kp.asgTo:Kp→Option Nat
 | .asg j _ | .asgA j _ | .asgP j _=>some j
 | _=>none
def opPre (pre:List Nat) (s:SOp):Bool :=
 (match s.k.asgTo with | some j=>!pre.contains j | none=>true)&&s.k.xs.all (fun x=>match x with | .v j=>!pre.contains j | _=>true)
def Kp.isEff:Kp→Bool
 | .asg _ _ | .asgA _ _ | .asgP _ _ | .st _ _ | .stn _ _ _ | .stR _ _ _ | .app _ _ _ _ | .calle _ _ | .dyn _ _ | .bo _ | .cpy _ _ | .boxo _ _ | .bldT _ _ | .apt _ _ _ _ | .mup _ _ _ _ | .nxt _=>true
 | _=>false
def Kp.isApt:Kp→Bool
 | .apt _ _ _ _=>true
 | _=>false
def SOp.isMv (s:SOp):Bool:=s.g.isNone&&match s.k with | .mv (.v _)=>true | _=>false
def resDst (o:Oper) (s:SOp):Option Nat:=match s.k.asgTo with
 | some _=>none
 | none=>o.dst
def resDsts:List Oper→List SOp→List (Option Nat)
 | o::l,s::r=>resDst o s::resDsts l r
 | _,_=>[]
def fitOps (P:Program) (nt:Nat) (ds:List (Option Nat)) (tr:List Nat):Nat→List Oper→List SOp→Bool
 | _,[],[]=>true
 | n,o::l,s::r=>(match o.dst with | some d=>decide (d<nt) | none=>true) &&
   (match s.k.asgTo with | some j=>decide (o.dst=tr[j]?)&&decide (j<tr.length)&&s.g.isNone | none=>true) &&
   (match o.guard,s.g with
    | none,none=>true
    | some (j,want),some (i,want')=>j == i&&want == want'&&decide (i<n)&&(match ds[i]? with | some (some _)=>true | _=>false)
    | _,_=>false)&&isK P ds tr o s.k&&s.k.reads.all (fun i=>decide (i<n))&&fitOps P nt ds tr (n+1) l r
 | _,_,_=>false
def nodupO:List (Option Nat)→Bool
 | []=>true
 | none::r=>nodupO r
 | some d::r=>!(r.contains (some d))&&nodupO r
def nodupN:List Nat→Bool
 | []=>true
 | d::r=>!(r.contains d)&&nodupN r
def apartD (tr pre:List Nat):List (Option Nat)→Bool
 | []=>true
 | none::r=>apartD tr pre r
 | some d::r=>(tr.zipIdx.all fun p=>!(p.1 == d) || pre.contains p.2)&&apartD tr pre r
def postOk (ds:List (Option Nat)) (tr pre:List Nat):List (Nat×Nat)→Bool
 | []=>true
 | (j,i)::r=>pre.contains j&&(match tr[j]?,ds[i]? with | some t,some (some d)=>t == d | _,_=>false)&&!((r.map (·.1)).contains j)&&postOk ds tr pre r
def aptD (cl:List Nat) (sl:List SOp) (e b:Nat):Bool :=
 sl.zipIdx.all fun q=>decide (q.2=e) || !q.1.k.isApt&&!q.1.k.reads.contains b&&(match q.1.g with | some (i,_)=>i != b | none=>true)&&(decide (q.2≤e) || inC cl q.2 e || q.1.isMv)
def drawOk (k:Nat) (cl:List Nat) (sl:List SOp):Bool :=
 sl.zipIdx.all fun p=>(p.1.k.reads.all fun i=>inC cl p.2 i)&&(match p.1.g with | some (i,_)=>inC cl p.2 i | none=>true) &&
  (match p.1.k with
   | .apt _ _ b _=>aptD cl sl p.2 b
   | kk=>!kk.isEff || ((List.range p.2).all fun i=>decide (i<k) || inC cl p.2 i)&&((List.range sl.length).all fun i=>decide (i≤p.2) || inC cl i p.2))
def edgesOk (ops:List Oper):Bool:=ops.zipIdx.all fun p=>p.1.after.toList.all fun e=>!Region.binds .any e || decide (e.on<p.2)
def vTmp (vs ds:List Nat):Operand→Bool
 | .tmp t=>vs.contains t || !ds.contains t
 | _=>false
def vOper (tr vs ds:List Nat) (o:Oper):Bool :=
 o.guard.isNone&&(match o.dst with | some d=>!tr.contains d | none=>false)&&(match o.op with | .move x=>vTmp vs ds x | .nilCheck x=>vTmp vs ds x | .fieldAddr _ x _=>vTmp vs ds x | _=>false)
def vScan (tr ds:List Nat):Nat→List Nat→List Nat→List Oper→List Nat
 | _,_,_,[]=>[]
 | i,vs,is,o::r=>if (vOper tr vs ds o&&o.after.toList.all fun e=>!Region.binds .any e || is.contains e.on)=true then i::vScan tr ds (i+1) (o.dst.toList++vs) (i::is) r else vScan tr ds (i+1) vs is r
def dstL:List Oper→List Nat
 | []=>[]
 | o::r=>o.dst.toList++dstL r
def hoistV (tr:List Nat) (ops:Array Oper):List Nat:=vScan tr (dstL ops.toList) 0 [] [] ops.toList
def hoistL (tr:List Nat) (ops:Array Oper):List Nat:=hoistV tr ops++(List.range ops.size).filter fun i=>!(hoistV tr ops).contains i
def posOf:List Nat→Nat→Nat
 | [],_=>0
 | i::r,j=>if i=j then 0 else posOf r j+1
def renum (ρ:Nat→Nat) (o:Oper):Oper:={ o with after:=o.after.map fun e=>{ e with on:=ρ e.on },guard:=o.guard.map fun g=>(ρ g.1,g.2) }
def permO (l:List Nat) (ops:Array Oper):Array Oper:=(l.map fun i=>renum (posOf l) (ops.getD i default)).toArray
def permOk (l:List Nat) (n:Nat):Bool:=decide (l.length=n)&&((List.range n).all fun j=>decide (posOf l j<n)&&decide (l.getD (posOf l j) n=j))&&(List.range n).all fun i=>decide (l.getD i n<n)&&decide (posOf l (l.getD i n)=i)
def guardsOk (n:Nat) (ops:List Oper):Bool:=ops.all fun o=>match o.guard with | some (j,_)=>decide (j<n) | none=>true
def SOp.isV (s:SOp):Bool:=s.g.isNone&&match s.k with | .mv _ | .nck _ | .fA _ _=>true | _=>false
def needH (draw:Bool) (ops:Array Oper) (l:List SOp):Bool:=draw&&!drawOk 0 (closures [] ops.toList) l
def eops (tr:List Nat) (draw:Bool) (ops:Array Oper) (l:List SOp):Array Oper:=if needH draw ops l=true then permO (hoistL tr ops) ops else ops
def preL (n i:Nat):Array Bool:=((List.range n).map fun j=>decide (j<i)).toArray
def preOk (e:Array Oper) (k:Nat) (l:List SOp):Bool:=(l.take k).all SOp.isV&&Region.noSelect e&&(List.range k).all fun i=>Region.free .any e (preL e.size i) i
def kH (tr:List Nat) (draw:Bool) (ops:Array Oper) (l:List SOp):Nat:=if needH draw ops l=true then (hoistV tr ops).length else 0
def fitR (P:Program) (nt:Nat) (tr:List Nat) (ops:Array Oper) (draw:Bool) (pre:List Nat) (l:List SOp) (post:List (Nat×Nat)):Bool :=
 let e:=eops tr draw ops l
 let ds:=resDsts e.toList l
 decide (e.size=l.length)&&fitOps P nt ds tr 0 e.toList l&&nodupO ds&&apartD tr pre ds&&postOk ds tr pre post&&pre.all (fun j=>decide (j<tr.length))&&l.all (opPre pre) &&
  (!draw || (P.follows .mixedOrders&&edgesOk e.toList&&drawOk (kH tr draw ops l) (closures [] e.toList) l)) &&
  (!needH draw ops l || (permOk (hoistL tr ops) ops.size&&guardsOk ops.size ops.toList&&edgesOk ops.toList&&preOk e (kH tr draw ops l) l&&decide (kH tr draw ops l≤l.length)))
def edgesIn (ops:Array Oper):Bool:=ops.toList.all fun o=>o.after.toList.all fun e=>!Region.binds .any e || decide (e.on<ops.size)
def addE (i j:Nat) (ops:Array Oper):Array Oper:=ops.modify j fun o=>{ o with after:=o.after.push ⟨i,.data⟩ }
def fitT (P:Program) (nt:Nat) (tr pre:List Nat):RT→Array Oper→Bool
 | .leaf l post,ops=>fitR P nt tr ops true pre l post
 | .two i j pm a b,ops=>decide (i≠j)&&decide (i<ops.size)&&decide (j<ops.size)&&edgesIn ops&&guardsOk ops.size ops.toList&&permOk pm ops.size&&fitT P nt tr pre a (addE i j ops)&&fitT P nt tr pre b (permO pm (addE j i ops))
def fitC (P:Program) (nt:Nat) (tr:List Nat):Code→C→Bool
 | .skip,.skip=>true
 | .region _ ops draw,.ops pre l post=>fitR P nt tr ops draw pre l post
 | .region _ ops draw,.alt pre t=>draw&&edgesOk ops.toList&&fitT P nt tr pre t ops
 | .seq (.region _ ops draw) (.cond x a b),.opc pre l post y c d=>fitR P nt tr ops draw pre l post&&isX (resDsts (eops tr draw ops l).toList l) tr x y&&fitC P nt tr a c&&fitC P nt tr b d
 | .seq (.region _ ops draw) (.seq (.cond x a b) r),.opq pre l post y c d e=>fitR P nt tr ops draw pre l post&&isX (resDsts (eops tr draw ops l).toList l) tr x y&&fitC P nt tr a c&&fitC P nt tr b d&&fitC P nt tr r e
 | .seq a b,.seq c d=>fitC P nt tr a c&&fitC P nt tr b d
 | .cond x a b,.cond y c d=>isX [] tr x y&&fitC P nt tr a c&&fitC P nt tr b d
 | .block i a,.block j c=>i == j&&fitC P nt tr a c
 | .loop a,.loop c=>fitC P nt tr a c
 | .exit i,.exit j=>i == j
 | .ret,.ret=>true
 | _,_=>false
def okTr (nt:Nat) (tr:List Nat):Bool:=nodupN tr&&tr.all (fun t=>decide (t<nt))&&decide (tr.length<500)
end Go.D3
