/- WHAT A TEXT LEAVES TO BE PROVED: 'vcC'. Generic. -/
import Derived.Test.YtgieggnpnepkfaaGreatDoorSlim
namespace Go.D3
open Go
structure St where
 env:List D
 n:Nat
 tmp:List D
def nth:List D→Nat→D
 | [],_=>.dead
 | a::_,0=>a
 | _::l,i+1=>nth l i
def setN:List D→Nat→D→List D
 | [],_,_=>[]
 | _::l,0,x=>x::l
 | a::l,i+1,x=>a::setN l i x
def St.cont (st:St) (k:Nat):D:=if k<1000 then nth st.env k else if k<1000+st.n then nth st.tmp (999+st.n-k) else .dead
def St.put (st:St) (k:Nat) (c:D):St:=if k<1000 then ⟨setN st.env k c,st.n,st.tmp⟩ else if k<1000+st.n then ⟨st.env,st.n,setN st.tmp (999+st.n-k) c⟩ else st
def St.push (st:St) (c:D):St:=⟨st.env,st.n+1,c::st.tmp⟩
def St.kill (st:St) (q:D→Bool):St:=⟨killL q st.env,st.n,killL q st.tmp⟩
def St.rd (st:St):X→D
 | .t i=>opv (1000+i) (st.cont (1000+i))
 | .v j=>opv j (st.cont j)
 | .i n=>.int .i64 n
 | .k d=>d
 | .g n=>(gl n).getD .dead
def qInto (k:Nat):D→Bool
 | .sub j _=>j == k
 | .adr j _=>j == k
 | _=>false
def qTmp:D→Bool
 | .sub j _=>decide (1000≤j)
 | .adr j _=>decide (1000≤j)
 | _=>false
def D.hole (c:D) (p:Path):D:=c.setAt p (hol c p)
def D.o?:D→Option D
 | .o x=>some x
 | _=>none
def D.scal:D→Bool
 | .int _ _ | .bool _ | .str _=>true
 | _=>false
def scalL:List D→Bool
 | []=>true
 | x::r=>x.scal&&scalL r
def mapO (f:D→Option D):List D→Option (List D)
 | []=>some []
 | x::r=>(f x).bind fun y=>(mapO f r).bind fun l=>some (y::l)
def D.plC:D→Option D
 | .int k n=>some (.int k n)
 | .bool b=>some (.bool b)
 | .str s=>some (.str s)
 | .nilp=>some .nilp
 | .slice z l=>some (.vw (.slice z l))
 | .ptr l=>some (.vw (.ptr l))
 | .nils z=>some (.slice z [])
 | _=>none
def D.plT:D→Option D
 | .agg l=>(mapO D.plC l).bind fun l'=>some (.agg l')
 | x=>x.plC
def D.tk?:D→Option D
 | .o x=>some x
 | .row z l=>(mapO D.plT l).bind fun l'=>some (.slice z l')
 | _=>none
def optVC {α:Type} (x:Option α) (K:α→Prop):Prop :=
 match x with
 | some a=>K a
 | none=>False
def takeK (k:Nat) (p:Path) (K:D→St→Prop) (st:St):Prop :=
 match p with
 | []=>optVC (st.cont k).tk? fun x=>K x ((st.kill (qInto k)).put k .dead)
 | s::p=>K ((st.cont k).dat (s::p)) ((st.kill (qDeep k (s::p))).put k (((st.kill (qDeep k (s::p))).cont k).hole (s::p)))
def apartR (k:Nat) (p:Path):D→Prop
 | .sub j q=>j≠k∨apart p q=true
 | .adr j q=>j≠k∨apart p q=true
 | _=>True
def safeR (r:List D):D→Prop
 | .sub k p=>refsL (apartR k p) r
 | _=>True
mutual
def absK:D→(D→St→Prop)→St→Prop
 | .int k n,K,st=>K (.int k n) st
 | .bool b,K,st=>K (.bool b) st
 | .str s,K,st=>K (.str s) st
 | .nilp,K,st=>K .nilp st
 | .fn f [],K,st=>K (.fn f []) st
 | .fn f (c::r),K,st=>(D.fn f (c::r)).refs (fun _=>False)∧K (.vw (.fn f (c::r))) st
 | .sub k p,K,st=>takeK k p K st
 | .agg l,K,st=>absL l (fun l' st=>K (.agg l') st) st
 | .slice z l,K,st=>K (.vw (.slice z l)) st
 | .ptr l,K,st=>K (.vw (.ptr l)) st
 | .nils z,K,st=>K (.slice z []) st
 | .nmp,K,st=>K .nmp st
 | .nifc,K,st=>K .nifc st
 | .ifc t x,K,st=>K (.ifc t x) st
 | _,_,_=>False
def absL:List D→(List D→St→Prop)→St→Prop
 | [],K,st=>K [] st
 | x::r,K,st=>x.refs (safeR r)∧absK x (fun x' st=>absL r (fun r' st=>K (x'::r') st) st) st
end
theorem takeK_imp {k:Nat} {p:Path} {K K':D→St→Prop} (hK:∀ x st,K x st→K' x st) {st:St} (h:takeK k p K st):takeK k p K' st:=by
 cases p with
 | nil =>
  simp only [takeK] at h ⊢
  cases hc:(st.cont k).tk? with
  | none=>rw [hc] at h;exact h.elim
  | some x=>rw [hc] at h;exact hK _ _ h
 | cons s p=>simp only [takeK] at h ⊢;exact hK _ _ h
mutual
theorem absK_imp:∀ (d:D) {K K':D→St→Prop} (_:∀ x st,K x st→K' x st) {st:St},absK d K st→absK d K' st
 | .int _ _,K,K',hK,st,h=>by simp only [absK] at h ⊢;exact hK _ _ h
 | .bool _,K,K',hK,st,h=>by simp only [absK] at h ⊢;exact hK _ _ h
 | .str _,K,K',hK,st,h=>by simp only [absK] at h ⊢;exact hK _ _ h
 | .nilp,K,K',hK,st,h=>by simp only [absK] at h ⊢;exact hK _ _ h
 | .fn _ [],K,K',hK,st,h=>by simp only [absK] at h ⊢;exact hK _ _ h
 | .slice _ _,K,K',hK,st,h=>by simp only [absK] at h ⊢;exact hK _ _ h
 | .ptr _,K,K',hK,st,h=>by simp only [absK] at h ⊢;exact hK _ _ h
 | .nils _,K,K',hK,st,h=>by simp only [absK] at h ⊢;exact hK _ _ h
 | .nmp,K,K',hK,st,h=>by simp only [absK] at h ⊢;exact hK _ _ h
 | .nifc,K,K',hK,st,h=>by simp only [absK] at h ⊢;exact hK _ _ h
 | .ifc _ _,K,K',hK,st,h=>by simp only [absK] at h ⊢;exact hK _ _ h
 | .mp _ _,K,K',hK,st,h=>by simp only [absK] at h
 | .itr _ _,K,K',hK,st,h=>by simp only [absK] at h
 | .sent _,K,K',hK,st,h=>by simp only [absK] at h
 | .pre _ _ _,K,K',hK,st,h=>by simp only [absK] at h
 | .sub k p,K,K',hK,st,h=>by simp only [absK] at h ⊢;exact takeK_imp hK h
 | .agg l,K,K',hK,st,h=>by simp only [absK] at h ⊢;exact absL_imp l (fun _ _ h=>hK _ _ h) h
 | .fn _ (_::_),K,K',hK,st,h=>by simp only [absK] at h ⊢;exact ⟨h.1,hK _ _ h.2⟩
 | .tup _,K,K',hK,st,h=>by simp only [absK] at h
 | .vw _,K,K',hK,st,h=>by simp only [absK] at h
 | .o _,K,K',hK,st,h=>by simp only [absK] at h
 | .box _,K,K',hK,st,h=>by simp only [absK] at h
 | .row _ _,K,K',hK,st,h=>by simp only [absK] at h
 | .adr _ _,K,K',hK,st,h=>by simp only [absK] at h
 | .when _ _,K,K',hK,st,h=>by simp only [absK] at h
 | .dead,K,K',hK,st,h=>by simp only [absK] at h
theorem absL_imp:∀ (l:List D) {K K':List D→St→Prop} (_:∀ x st,K x st→K' x st) {st:St},absL l K st→absL l K' st
 | [],K,K',hK,st,h=>by simp only [absL] at h ⊢;exact hK _ _ h
 | x::r,K,K',hK,st,h=>by simp only [absL] at h ⊢;exact ⟨h.1,absK_imp x (fun _ _ h=>absL_imp r (fun _ _ h=>hK _ _ h) h) h.2⟩
end
def contOf:D→D
 | .vw (.slice z l)=>.slice z l
 | .vw (.ptr l)=>.ptr l
 | .vw (.agg l)=>.agg l
 | .vw (.fn f l)=>.fn f l
 | .vw (.mp ks vs)=>.mp ks vs
 | .vw (.tup l)=>.tup l
 | .vw _=>.dead
 | .int k n=>.int k n
 | .bool b=>.bool b
 | .str s=>.str s
 | .nilp=>.nilp
 | .fn f l=>.fn f l
 | .dead=>.dead
 | .nmp=>.nmp
 | .nifc=>.nifc
 | .ifc t x=>.ifc t x
 | d=>.o d
def szOk (z:D):List D→Bool
 | []=>true
 | x::r=>decide (x.cells.length=z.cells.length)&&szOk z r
def gath (ob:Nat→D):Nat→D→Option D
 | 0,_=>none
 | n+1,d=>match d with
  | .sub k p=>(lk ob k).bind fun c=>match c with
   | .row z l=>(mapO (gath ob n) l).bind fun l'=>if szOk z l'=true then some (.slice z l') else none
   | c=>if (c.dat p).isAgg=true then none else some (c.dat p)
  | .pre k p m=>(lk ob k).bind fun c=>match c with
   | .row _ _=>none
   | c=>match c.dat p with
    | .slice z l=>some (.slice z (l.take m))
    | _=>none
  | .adr k p=>(lk ob k).bind fun c=>match c,p with
   | .box l,[(_,off)]=>(mapO (gath ob n) l).bind fun l'=>some (.ptr (l'.drop off))
   | .o (.ptr l),[(_,off)]=>some (.ptr (l.drop off))
   | _,_=>none
  | .agg l=>(mapO (gath ob n) l).bind fun l'=>some (.agg l')
  | .o x=>some x
  | .nils z=>some (.slice z [])
  | .tup _=>none
  | .dead=>none
  | .when _ _=>none
  | .box _=>none
  | .row _ _=>none
  | .fn f l=>(mapO (gath ob n) l).bind fun l'=>some (.fn f l')
  | x=>some x
def gathL (ob:Nat→D) (rd:X→D):List X→Option (List D)
 | []=>some []
 | x::r=>(gath ob 4 (rd x).core).bind fun y=>(gathL ob rd r).bind fun l=>some (y::l)
def gates (rd:X→D):List X→Bool
 | []=>true
 | x::r=>(rd x).gate&&gates rd r
mutual
def D.novw:D→Bool
 | .vw _=>false
 | .ifc _ _=>false
 | .slice _ l=>novwL l
 | .agg l=>novwL l
 | .tup l=>novwL l
 | .ptr l=>novwL l
 | _=>true
def novwL:List D→Bool
 | []=>true
 | x::r=>x.novw&&novwL r
end
def noRef:D→Prop:=fun _=>False
def plainL (rd:X→D):List X→Prop
 | []=>True
 | x::r=>(rd x).core.refs noRef∧plainL rd r
def onG (g:Option Bool) (p:Prop):Prop :=
 match g with
 | none=>p
 | some b=>b=true→p
def whG (g:Option Bool) (v:D):D :=
 match g with
 | none=>v
 | some b=>.when b v
def D.okc:D→Bool
 | .o _ | .box _ | .row _ _ | .when _ _=>false
 | _=>true
def pureVC (r:Option PR) (g:Option Bool) (K:St→Prop) (st:St):Prop :=
 match r with
 | none=>g=some false∧K (st.push (.when false (.bool false)))
 | some (side,res)=>onG g side∧res.okc=true∧K (st.push (whG g res))
def newVC (r:Option PR) (g:Option Bool) (K:St→Prop) (st:St):Prop :=
 match g,r with
 | none,some (side,c)=>side∧K (st.push c)
 | _,_=>False
def D.plain?:D→Option D
 | .int k n=>some (.int k n)
 | .bool b=>some (.bool b)
 | .str s=>some (.str s)
 | .nilp=>some .nilp
 | .slice z l=>some (.slice z l)
 | .ptr l=>some (.ptr l)
 | .nils z=>some (.slice z [])
 | .fn f []=>some (.fn f [])
 | .mp ks vs=>some (.mp ks vs)
 | .nmp=>some .nmp
 | .nifc=>some .nifc
 | .ifc t x=>some (.ifc t x)
 | _=>none
def pcs:List D→Bool
 | []=>true
 | x::r=>x.pc&&pcs r
def boxR (n:Nat) (x:D):Option PR:=x.core.cellsOf.bind fun l=>some ((x.gate=true∧0<n∧pcs l=true)∧l.length=n,.box l)
def boxvR (n:Nat) (x:D):Option PR:=x.core.cellsOf.bind fun l=>(mapO D.plain? l).bind fun l'=>some (x.gate=true∧l.length=n,.ptr l')
def mkSR (z:D) (bytes:Nat) (l c:D):Option PR :=
 l.core.int?.bind fun a=>c.core.int?.bind fun b=>some ((l.gate=true∧c.gate=true)∧0≤a∧a≤b∧bytes*b≤281474976710656,.o (.slice z (List.replicate a.toNat z)))
def fillE (rd:X→D) (sz:Nat):List D→List (Nat×X)→Option (Bool×List D)
 | es,[]=>some (true,es)
 | es,(i,x)::r=>(rd x).core.cellsOf.bind fun l =>
  if l.length=sz∧i<es.length∧pcs l=true then (fillE rd sz (setN es i (rd x).core) r).bind fun p=>some ((rd x).gate&&p.1,p.2) else none
def bldSR (rd:X→D) (z:D) (n:Nat) (parts:List (Nat×X)):Option PR :=
 match n,parts with
 | 0,[]=>some (True,.o (.slice z []))
 | 0,_=>none
 | n+1,parts=>(fillE rd z.cells.length (List.replicate (n+1) z) parts).bind fun p=>some (p.1=true,.row z p.2)
def rngR (x:D):Option PR:=x.core.str?.bind fun s=>some (x.gate=true,.o (.itr s 0))
def cvBR (x:D):Option PR:=x.core.str?.bind fun s=>some (x.gate=true∧s.length≤140737488355328,.o (bytesD s))
def newR (k:Kp) (rd:X→D):Option PR :=
 match k with
 | .cvB x=>cvBR (rd x)
 | .box n x=>boxR n (rd x)
 | .boxv n x=>boxvR n (rd x)
 | .alc zs=>some (zs≠[],.box zs)
 | .mkS z bytes l c=>mkSR z bytes (rd l) (rd c)
 | .bldS z n parts=>bldSR rd z n parts
 | .mkM=>some (True,.o (.mp [] []))
 | .rng x=>rngR (rd x)
 | _=>none
def bodyF (P:Program) (f:FuncId):Bool:=match P.funcs[f]? with
 | some fn=>fn.body.isSome&&!(fn.name == "runtime.NumGoroutine")
 | none=>false
def RetE (P:Program) (f:FuncId) (as gs:List D) (Q:D→List D→Prop):Prop :=
 bodyF P f=true∧∀ (w:World) (A:Nat→Prop) (vs:Array Value) (gv:Nat→Value) (Fs:Nat→Nat→Prop),GOk w A→(∀ b,A b→b<w.heap.size)→vs.size=as.length →
  (∀ (j:Nat) (a:D),as[j]?=some a→Pl w A (RefOk w (nth gs) gv) (vs.getD j undef) a) →
  (∀ k,ContOk w A (RefOk w (nth gs) gv) (gv k) (Fs k) (nth gs k))→(∀ k,(nth gs k).isObj=false→∀ b,¬ Fs k b) →
  (∀ i j b,i≠j→Fs i b→¬ Fs j b)→(∀ k b,Fs k b→b<w.heap.size∧¬ A b) →
  Calls P f vs w fun e w'=>∃ (rc:D) (gs':List D) (v:Value) (F:Nat→Prop) (gv':Nat→Value) (Fs':Nat→Nat→Prop),Q rc gs'∧e=.returned v∧w.heap.size≤w'.heap.size ∧
   ContOk w' (fun b=>A b∨(w.heap.size≤b∧b<w'.heap.size∧¬ F b∧∀ j,¬ Fs' j b)) (RefOk w' (nth gs') gv') v F rc∧(rc.isObj=false→∀ b,¬ F b) ∧
   (∀ k,ContOk w' (fun b=>A b∨(w.heap.size≤b∧b<w'.heap.size∧¬ F b∧∀ j,¬ Fs' j b)) (RefOk w' (nth gs') gv') (gv' k) (Fs' k) (nth gs' k))∧(∀ k,(nth gs' k).isObj=false→∀ b,¬ Fs' k b) ∧
   (∀ k,nth gs k≠.dead→gv' k=gv k) ∧
   (∀ b,F b→b<w'.heap.size∧(w.heap.size≤b∨∃ j,Fs j b)∧∀ j,¬ Fs' j b)∧(∀ j b,Fs' j b→b<w'.heap.size∧(w.heap.size≤b∨∃ j,Fs j b))∧(∀ i j b,i≠j→Fs' i b→¬ Fs' j b) ∧
   (∀ b,b<w.heap.size→(∀ j,¬ Fs j b)→w'.heap[b]?=w.heap[b]?)∧w'.os=w.os∧w'.tape=w.tape∧w'.output=w.output
def RetG (P:Program) (f:FuncId) (as gs:List D) (rc:D) (gs':List D):Prop:=RetE P f as gs fun r g=>r=rc∧g=gs'
theorem RetE.imp {P:Program} {f:FuncId} {as gs:List D} {Q Q':D→List D→Prop} (h:RetE P f as gs Q) (hQ:∀ r g,Q r g→Q' r g):RetE P f as gs Q' :=
 ⟨h.1,fun w A vs gv Fs h0 h1 h2 h3 h4 h5 h6 h7=>(h.2 w A vs gv Fs h0 h1 h2 h3 h4 h5 h6 h7).mono fun _ _ ⟨rc,gs',v,F,gv',Fs',q,r⟩=>⟨rc,gs',v,F,gv',Fs',hQ _ _ q,r⟩⟩
def RetK (P:Program) (f:FuncId) (as gs:List D) (rc:D):Prop :=
 bodyF P f=true∧∀ (w:World) (A:Nat→Prop) (vs:Array Value) (gv:Nat→Value) (Fs:Nat→Nat→Prop),GOk w A→(∀ b,A b→b<w.heap.size)→vs.size=as.length →
  (∀ (j:Nat) (a:D),as[j]?=some a→Pl w A (RefOk w (nth gs) gv) (vs.getD j undef) a) →
  (∀ k,ContOk w A (RefOk w (nth gs) gv) (gv k) (Fs k) (nth gs k))→(∀ k,(nth gs k).isObj=false→∀ b,¬ Fs k b) →
  (∀ i j b,i≠j→Fs i b→¬ Fs j b)→(∀ k b,Fs k b→b<w.heap.size∧¬ A b) →
  Calls P f vs w fun e w'=>∃ v:Value,e=.returned v∧w.heap.size≤w'.heap.size∧(∀ b,b<w.heap.size→w'.heap[b]?=w.heap[b]?) ∧
   Pl w' (fun b=>A b∨(w.heap.size≤b∧b<w'.heap.size)) (RefOk w (nth gs) gv) v rc∧w'.os=w.os∧w'.tape=w.tape∧w'.output=w.output
mutual
def D.tight:D→Bool
 | .int _ _=>true
 | .bool _=>true
 | .str _=>true
 | .nilp=>true
 | .nils _=>true
 | .dead=>true
 | .sub _ _=>true
 | .adr _ _=>true
 | .fn _ l=>tightL l
 | .agg l=>tightL l
 | .tup l=>tightL l
 | _=>false
def tightL:List D→Bool
 | []=>true
 | x::r=>x.tight&&tightL r
end
def D.tightC:D→Bool
 | .o x=>x.novw
 | c=>c.tight
def tightCL:List D→Bool
 | []=>true
 | x::r=>x.tightC&&tightCL r
def D.tightX:D→Bool
 | .box l=>tightCL l
 | .row _ l=>tightL l
 | c=>c.tightC
def tightXL:List D→Bool
 | []=>true
 | x::r=>x.tightX&&tightXL r
class KH where
 k:St→Prop
def callC (g:Option Bool) (res c:D):Prop :=
 match g with
 | none=>c=contOf res∨c=contOf (.vw res)
 | some b=>c=.when b res
def callVC (P:Program) (f:FuncId) (ds:Option (List D)) (gt:Bool) (pl:Prop) (g:Option Bool) [K:KH] (st:St):Prop :=
 ∃ l res c,ds=some l∧onG g (gt=true∧Ret P f (l.map .v) res∧(res.novw=true∨pl))∧callC g res c∧K.k (st.push c)
def D.fillC (c:D) (p:Path) (y:D):D:=c.setAt p (if cellLvl c p=true then .o y else y)
def fill1 (x:D) (r:List D) (y:D) (K:St→Prop) (st:St):Prop :=
 match x with
 | .sub k (s::p)=>y.isAgg=false∧refsL (fun d=>qDeep k (s::p) d=false) r∧K ((st.kill (qDeep k (s::p))).put k (((st.kill (qDeep k (s::p))).cont k).fillC (s::p) y))
 | _=>K st
def fillL:List D→List D→(St→Prop)→St→Prop
 | [],[],K,st=>K st
 | x::r,y::ys,K,st=>fill1 x r y (fillL r ys K) st
 | _,_,_,_=>False
def ioVC (P:Program) (f:FuncId) (d:D) (ds:Option (List D)) (gt:Bool) (pl:Prop) (g:Option Bool) [K:KH] (st:St):Prop :=
 g=none∧gt=true∧pl∧∃ dl,ds=some dl∧match d with
  | .adr k [(0,0)]=>∃ l l' res,st.cont k=.box l∧refsL noRef l∧refsL noRef l'∧l'.length=l.length∧Ret P f (.io (.box l) (.box l')::dl.map .v) res∧K.k (((st.kill (qSt k [(0,0)])).put k (.box l')).push (contOf res))
  | .sub k []=>∃ x y res,st.cont k=.o x∧Ret P f (.io (.o x) (.o y)::dl.map .v) res∧K.k (((st.kill (qDeep k [])).put k (.o y)).push (contOf res))
  | .sub k (s::p)=>absL [.sub k (s::p)] (fun l st=>∃ x y res,l=[x]∧Ret P f (.io (.o x) (.o y)::dl.map .v) res∧fillL [.sub k (s::p)] [y] (fun st=>K.k (st.push (contOf res))) st) st
  | .agg l=>absL l (fun xs st=>∃ ys res,Ret P f (.io (.o (.agg xs)) (.o (.agg ys))::dl.map .v) res∧fillL l ys (fun st=>K.k (st.push (contOf res))) st) st
  | _=>False
def sg (n:Nat) (js:List Nat) (i:Nat):Nat:=(js[i]?).getD (1000+n+i)
def lendEq (st:St) (σ:Nat→Nat):List Nat→List D→Prop
 | [],[]=>True
 | j::js,g::gs=>st.cont j=g.ren σ∧lendEq st σ js gs
 | _,_=>False
def argG (st:St) (σ:Nat→Nat) (js:List Nat) (tg:Bool):List D→List D→Prop
 | [],[]=>True
 | d::ds,a::as=>(d=a.ren σ∨(tg=true∧gath (fun k=>if js.contains k=true then .dead else st.cont k) 4 d=some a))∧argG st σ js tg ds as
 | _,_=>False
def shO:D→D→Bool
 | .o _,.o _=>true
 | _,_=>false
def shB:D→D→Bool
 | .box l,.box l'=>l.length == l'.length
 | _,_=>false
def qG1 (j:Nat) (g h:D):D→Bool
 | .sub k p=>k == j&&!(p.isEmpty&&shO g h)
 | .adr k p=>k == j&&!(p.length == 1&&shB g h)
 | _=>false
def qG:List Nat→List D→List D→D→Bool
 | j::js,g::gs,h::hs,d=>qG1 j g h d || qG js gs hs d
 | _,_,_,_=>false
def putsG (σ:Nat→Nat) (st:St):List Nat→List D→St
 | j::js,h::hs=>putsG σ (st.put j (h.ren σ)) js hs
 | _,_=>st
def noNew:List D→List D→Prop
 | [],[]=>True
 | g::gs,h::hs=>(g=.dead→h=.dead)∧noNew gs hs
 | _,_=>False
def gMain (P:Program) (f:FuncId) (ds:List D) (st:St) (K:D→St→Prop):Prop :=
 ∃ (js:List Nat) (tg:Bool) (as gs:List D) (Q:D→List D→Prop),RetE P f as gs Q∧(js.Nodup∧js.all (fun j=>decide (j<1000+st.n))=true)∧lendEq st (sg st.n js) js gs∧argG st (sg st.n js) js tg ds as ∧
  ∀ rc gs',Q rc gs'→noNew gs gs'∧(tg=true→rc.tightX=true∧tightXL gs'=true)∧K (rc.ren (sg st.n js)) (putsG (sg st.n js) (st.kill (qG js gs gs')) js gs')
def gVC (P:Program) (f:FuncId) (ds:List D) (gt:Bool) (gd:Bool) [K:KH] (st:St):Prop :=
 gt=true∧gMain P f ds st fun c st=>(gd=true→c.okc=true)∧K.k (st.push (if gd=true then .when true c else c))
def dyn1 (P:Program) (x:D) (ds:List D) (gt:Bool) (gd:Bool) [KH] (st:St):Prop :=
 match x with
 | .fn f caps=>gVC P f (ds++caps) gt gd st
 | _=>False
def dynVC (P:Program) (x:D) (ds:List D) (gt:Bool) (g:Option Bool) [K:KH] (st:St):Prop :=
 match g with
 | none=>dyn1 P x ds gt false st
 | some true=>dyn1 P x ds gt true st
 | some false=>K.k (st.push (.when false (.bool false)))
def rdsL (rd:X→D):List X→List D
 | []=>[]
 | x::r=>(rd x).core::rdsL rd r
theorem g_call {P:Program} {f:FuncId} {ds:List D} {K:St→Prop} {st:St} {as gs gs':List D} {rc:D} (js:List Nat) (tg:Bool) (hR:RetG P f as gs rc gs') (hn:js.Nodup∧js.all (fun j=>decide (j<1000+st.n))=true) (hl:lendEq st (sg st.n js) js gs) (ha:argG st (sg st.n js) js tg ds as)
  (hw:noNew gs gs') (ht:tg=true→rc.tightX=true∧tightXL gs'=true) (hK:K ((putsG (sg st.n js) (st.kill (qG js gs gs')) js gs').push (rc.ren (sg st.n js)))):@gVC P f ds true false ⟨K⟩ st :=
 ⟨rfl,js,tg,as,gs,_,hR,hn,hl,ha,fun _ _ h=>by obtain ⟨rfl,rfl⟩:=h;exact ⟨hw,ht,fun h=>(by cases h),hK⟩⟩
theorem e_call {P:Program} {f:FuncId} {ds:List D} {K:St→Prop} {st:St} {as gs:List D} {Q:D→List D→Prop} (js:List Nat) (tg:Bool) (hR:RetE P f as gs Q) (hn:js.Nodup∧js.all (fun j=>decide (j<1000+st.n))=true) (hl:lendEq st (sg st.n js) js gs) (ha:argG st (sg st.n js) js tg ds as)
  (hK:∀ rc gs',Q rc gs'→noNew gs gs'∧(tg=true→rc.tightX=true∧tightXL gs'=true)∧K ((putsG (sg st.n js) (st.kill (qG js gs gs')) js gs').push (rc.ren (sg st.n js)))):@gVC P f ds true false ⟨K⟩ st :=
 ⟨rfl,js,tg,as,gs,_,hR,hn,hl,ha,fun _ _ h=>⟨(hK _ _ h).1,(hK _ _ h).2.1,fun h=>(by cases h),(hK _ _ h).2.2⟩⟩
def sj (js:List Nat) (i:Nat):Nat:=(js[i]?).getD 0
def inB (n:Nat):D→Prop
 | .sub k _=>k<n
 | .adr k _=>k<n
 | _=>True
def lendO (ob:Nat→D) (σ:Nat→Nat):List Nat→List D→Prop
 | [],[]=>True
 | j::js,g::gs=>(j<1000∧ob j=g.ren σ)∧lendO ob σ js gs
 | _,_=>False
def argO (σ:Nat→Nat):List D→List D→Prop
 | [],[]=>True
 | d::ds,a::as=>d=a.ren σ∧argO σ ds as
 | _,_=>False
def KOk (P:Program) (f:FuncId) (ob:Nat→D) (ds:List D) (c:D):Prop :=
 ∃ (js:List Nat) (as gs:List D) (rc:D),RetK P f as gs rc∧js.Nodup∧lendO ob (sj js) js gs∧argO (sj js) ds as∧(refsL (inB js.length) as∧refsL (inB js.length) gs∧rc.refs (inB js.length))∧rc.okc=true∧c=rc.ren (sj js)
def callkVC (P:Program) (f:FuncId) (ds:List D) [K:KH] (st:St):Prop:=∃ c,KOk P f st.cont ds c∧K.k (st.push c)
theorem k_call {P:Program} {f:FuncId} {ds:List D} {K:St→Prop} {st:St} {as gs:List D} {rc:D} (js:List Nat) (hR:RetK P f as gs rc) (hn:js.Nodup) (hl:lendO st.cont (sj js) js gs) (ha:argO (sj js) ds as)
  (hr:refsL (inB js.length) as∧refsL (inB js.length) gs∧rc.refs (inB js.length)) (ho:rc.okc=true) (hK:K (st.push (rc.ren (sj js)))):@callkVC P f ds ⟨K⟩ st :=
 ⟨_,⟨js,as,gs,rc,hR,hn,hl,ha,hr,ho,rfl⟩,hK⟩
def boxdG (d:D) (K:D→St→Prop) (st:St):Prop :=
 match d with
 | .adr j [(0,0)]=>((st.kill (qInto j)).cont j).isObj=true∧(st.cont j).isO=false∧K ((st.kill (qInto j)).cont j) ((st.kill (qInto j)).put j .dead)
 | _=>False
def asgK (j:Nat) (x:D) (K:St→Prop) (st:St):Prop :=
 absK x (fun d st=>K (((st.kill (qInto j)).put j (contOf d)).push .dead)) st
def D.plainC:D→Bool
 | .o _ | .box _ | .row _ _ | .when _ _ | .dead=>false
 | _=>true
def asgAK (j:Nat) (x:D) (K:St→Prop) (st:St):Prop :=
 x.refs (notInto j)∧x.plainC=true∧K (((st.kill (qInto j)).put j x).push .dead)
def upP:Path→Path
 | []=>[]
 | [_]=>[]
 | s::t::r=>s::upP (t::r)
def lastZ:Path→Bool
 | []=>false
 | [s]=>s.1 == 0&&s.2 == 0
 | _::t::r=>lastZ (t::r)
def D.isPt:D→Bool
 | .ptr _=>true
 | _=>false
def asgPK (j:Nat) (x:D) (K:St→Prop) (st:St):Prop :=
 match x with
 | .adr k q=>lastZ q=true∧takeK k (upP q) (fun d st=>d.isPt=true∧K (((st.kill (qInto j)).put j (contOf d)).push .dead)) st
 | x=>asgK j x K st
theorem lastZ_up:∀ {q:Path},lastZ q=true→q=upP q++[(0,0)]
 | [],h=>by cases h
 | [(a,b)],h=>by
  simp only [lastZ,Bool.and_eq_true,beq_iff_eq] at h
  rw [h.1,h.2];rfl
 | s::t::r,h=>by
  have:=lastZ_up (q:=t::r) h
  show s::t::r=s::(upP (t::r)++[(0,0)])
  rw [← this]
def safeA (k:Nat) (p:Path):D→Prop
 | .sub j q=>j≠k∨(q≠[]∧gtL q p=false)
 | _=>True
def setCs (c:D) (p:Path):Nat→List D→D
 | _,[]=>c
 | j,y::r=>setCs (c.setAt (bump p j) (if cellLvl c (bump p j)=true then contOf y else y)) p (j+1) r
def okCs (c:D) (p:Path):Nat→List D→Prop
 | _,[]=>True
 | j,y::r=>c.hasC (bump p j)∧y.isAgg=false∧okCs c p (j+1) r
def storeK (n:Nat) (a x:D) (K:St→Prop) (st:St):Prop :=
 match a with
 | .adr k p=>optVC x.cellsOf fun l=>l.length=n∧refsL (safeA k p) l∧absL l (fun l' st=>okCs ((st.kill (qSt k p)).cont k) p 0 l' ∧
    K (((st.kill (qSt k p)).put k (setCs ((st.kill (qSt k p)).cont k) p 0 l')).push .dead)) st
 | _=>False
def D.rsv:D→Bool
 | .int _ _ | .bool _ | .str _ | .nilp | .slice _ _ | .ptr _ | .nils _ | .sub _ _ | .adr _ _=>true
 | _=>false
def rsvL:List D→Bool
 | []=>true
 | x::r=>x.rsv&&rsvL r
def D.boxO?:D→Option (List D)
 | .box l=>some l
 | _=>none
def storeRK (n:Nat) (a x:D) (K:St→Prop) (st:St):Prop :=
 match a with
 | .adr k p=>p=[(0,0)]∧optVC (st.cont k).boxO? fun l0=>l0.length=n∧optVC x.cellsOf fun l=>l.length=n∧rsvL l=true∧refsL (fun d=>qSt k [(0,0)] d=false) l ∧
   K (((st.kill (qSt k [(0,0)])).put k (.box l)).push .dead)
 | _=>False
def D.els?:D→Option (List D)
 | .slice _ l=>some l
 | .nils _=>some []
 | _=>none
def srcOf (st:St) (x:D):Option (List D) :=
 match x with
 | .sub k p=>(lk st.cont k).bind fun c=>(c.dat p).els?
 | x=>x.els?
def D.appL (y:D) (M:List D):D :=
 match y with
 | .slice z L=>.slice z (L++M)
 | y=>y
def D.row?:D→Option (List D)
 | .row _ l=>some l
 | _=>none
def isRow (st:St) (x:D):Option (List D) :=
 match x with
 | .sub k []=>(st.cont k).row?
 | _=>none
def baseK (s:D) (K:D→St→Prop) (st:St):Prop :=
 match s with
 | .sub k p=>takeK k p K st
 | .nils z=>K (.slice z []) st
 | _=>False
def appSrc (st:St) (x:D):Option (List D ⊕ List D) :=
 match isRow st x with
 | some l=>some (.inl l)
 | none=>(srcOf st x).bind fun M=>some (.inr M)
def okSz (sz:Nat):List D→Prop
 | []=>True
 | e::r=>e.cells.length=sz∧okSz sz r
def D.isSl:D→Bool
 | .slice _ _=>true
 | _=>false
def D.one1:D→Bool
 | .int _ _ | .bool _ | .str _ | .slice _ _ | .nilp | .ptr _ | .mp _ _ | .nmp | .ifc _ _ | .nifc=>true
 | _=>false
def one1L:List D→Bool
 | []=>true
 | x::r=>x.one1&&one1L r
def D.mvE (sz:Nat) (e:D):Bool:=decide (e.cells.length=sz)&&one1L e.cells
def D.mvz:D→Bool
 | .slice z _=>z.isSl || z.isAgg
 | _=>false
def D.mvO:D→Bool
 | .o x=>x.mvz
 | _=>false
def mvRow (st:St) (x:D):Option (Nat×Path) :=
 match x with
 | .sub k []=>if (st.cont k).mvO=true then some (k,[]) else none
 | .sub k (q::p)=>if ((st.cont k).dat (q::p)).mvz=true then some (k,q::p) else none
 | _=>none
def appK (sz bytes:Nat) (s x:D) (K:St→Prop) (st:St):Prop :=
 match mvRow st x with
 | some k=>x.refs (safeR [s])∧takeK k.1 k.2 (fun y st=>y.esz=sz∧optVC y.els? fun M=>(∀ e∈M,e.mvE sz=true) ∧
   baseK s (fun y st=>y.esz=sz∧optVC y.len? fun m=>(m+M.length)*bytes≤140737488355328∧K (st.push (.o (y.appL M)))) st) st
 | none=>optVC (appSrc st x) fun src=>match src with
 | .inl l=>okSz sz l∧refsL (safeR [s]) l∧absL l (fun M st=>baseK s (fun y st=>y.esz=sz∧optVC y.len? fun m=>(m+M.length)*bytes≤140737488355328∧K (st.push (.o (y.appL M)))) st) st
 | .inr M=>(∀ e∈M,e.scal=true)∧sz=1∧x.refs (safeR [s])∧baseK s (fun y st=>y.esz=sz∧optVC y.len? fun m=>(m+M.length)*bytes≤140737488355328∧K (st.push (.o (y.appL M)))) st
def takeL:List D→List D→(List D→St→Prop)→St→Prop
 | done,[],K,st=>K done st
 | done,.sub k p::r,K,st=>refsL (apartR k p) (done++r)∧takeK k p (fun x st=>takeL (done++[contOf x]) r K st) st
 | done,x::r,K,st=>x.pc=true∧takeL (done++[x]) r K st
def boxoVC (n:Nat) (x:D) (K:St→Prop) (st:St):Prop :=
 match x.cellsOf with
 | none=>False
 | some l=>(l.length=n∧0<n)∧takeL [] l (fun l' st=>K (st.push (.box l'))) st
def bldTVC (z x:D) (K:St→Prop) (st:St):Prop :=
 match x.cellsOf with
 | none=>False
 | some l=>l.length=z.cells.length∧absL l (fun l' st=>K (st.push (.o (.slice z [.agg l'])))) st
def cpyVC (d s:D) [K:KH] (st:St):Prop :=
 match d with
 | .sub k (q::p)=>∃ M,srcOf st s=some M∧(∀ e∈M,e.scal=true)∧absL [.sub k (q::p)] (fun l st=>∃ z L,l=[.slice z L]∧(z.cells.length=1∧∀ e∈L,e.scal=true) ∧
   fillL [.sub k (q::p)] [.slice z (M.take L.length++L.drop M.length)] (fun st=>K.k (st.push (.int .i64 (min M.length L.length:Nat)))) st) st
 | _=>False
def mupVC (kk:Nat) (m k v:D) [K:KH] (st:St):Prop :=
 k.keyS kk=true∧v.scal=true∧match m with
 | .sub j []=>optVC ((st.cont j).o?.bind D.mp?) fun e=>optVC (mfind k e.1) fun r=>e.1.length<maxLen∧K.k ((st.put j (.o (.mp (mput k v e.1 e.2 r).1 (mput k v e.1 e.2 r).2))).push .dead)
 | .sub j (s::p)=>absL [.sub j (s::p)] (fun l st=>optVC ((l.head?).bind D.mp?) fun e=>optVC (mfind k e.1) fun r=>e.1.length<maxLen ∧
   fillL [.sub j (s::p)] [.mp (mput k v e.1 e.2 r).1 (mput k v e.1 e.2 r).2] (fun st=>K.k (st.push .dead)) st) st
 | _=>False
def runeAt (s:List UInt8) (p:Nat):Nat×Nat:=Utf8.decode ⟨s.toArray⟩ p
def D.itr?:D→Option (List UInt8×Nat)
 | .o (.itr s p)=>some (s,p)
 | _=>none
def nxtVC (j:Nat) [K:KH] (st:St):Prop :=
 optVC (st.cont j).itr? fun e=>(e.2<e.1.length→K.k ((st.put j (.o (.itr e.1 (e.2+(runeAt e.1 e.2).2)))).push (.tup [.bool true,.int .i64 e.2,.int .i32 (runeAt e.1 e.2).1]))) ∧
  (e.1.length≤e.2→K.k (st.push (.tup [.bool false])))
def envRefs (kb:Nat):Nat→List D→Prop
 | _,[]=>True
 | j,d::r=>d.refs (notInto kb)∧(opv j d).core.refs (notInto kb)∧envRefs kb (j+1) r
def aptVC (sz bytes b s:Nat) (K:St→Prop) (st:St):Prop :=
 sz=1∧optVC (st.cont (1000+s)).row? fun l=>scalL l=true∧optVC (st.cont (1000+b)).o? fun y=>y.esz=1∧optVC y.len? fun m=>(m+l.length)*bytes≤140737488355328 ∧
  envRefs (1000+b) 0 st.env∧refsL (notInto (1000+b)) st.tmp∧K ((st.put (1000+b) .dead).push (.o (y.appL l)))
def opVC (P:Program) (k:Kp) (g:Option Bool) (K:St→Prop) (st:St):Prop :=
 match k with
 | .asg j x=>g=none∧(st.rd x).gate=true∧asgK j (st.rd x).core K st
 | .asgA j x=>g=none∧(st.rd x).gate=true∧asgAK j (st.rd x).core K st
 | .call f xs=>@callVC P f (gathL st.cont st.rd xs) (gates st.rd xs) (plainL st.rd xs) g ⟨K⟩ st
 | .callk f xs=>g=none∧gates st.rd xs=true∧@callkVC P f (rdsL st.rd xs) ⟨K⟩ st
 | .st a x=>g=none∧((st.rd a).gate&&(st.rd x).gate)=true∧storeK 1 (st.rd a).core (st.rd x).core K st
 | .stn n a x=>g=none∧((st.rd a).gate&&(st.rd x).gate)=true∧storeK n (st.rd a).core (st.rd x).core K st
 | .stR n a x=>g=none∧((st.rd a).gate&&(st.rd x).gate)=true∧storeRK n (st.rd a).core (st.rd x).core K st
 | .app sz bytes s x=>g=none∧((st.rd s).gate&&(st.rd x).gate)=true∧appK sz bytes (st.rd s).core (st.rd x).core K st
 | .calle f (x::r)=>@ioVC P f (st.rd x).core (gathL st.cont st.rd r) (gates st.rd (x::r)) (plainL st.rd r) g ⟨K⟩ st
 | .calle _ []=>False
 | .dyn x xs=>@dynVC P (st.rd x).core (rdsL st.rd xs) (gates st.rd (x::xs)) g ⟨K⟩ st
 | .boxo n x=>g=none∧(st.rd x).gate=true∧boxoVC n (st.rd x).core K st
 | .bo x=>g=none∧(st.rd x).gate=true∧boxdG (st.rd x).core (fun c st=>K (st.push c)) st
 | .apt sz bytes b s=>g=none∧aptVC sz bytes b s K st
 | .cpy x y=>g=none∧((st.rd x).gate&&(st.rd y).gate)=true∧@cpyVC (st.rd x).core (st.rd y).core ⟨K⟩ st
 | .mup kk m k v=>g=none∧((st.rd m).gate&&(st.rd k).gate&&(st.rd v).gate)=true∧@mupVC kk (st.rd m).core (st.rd k).core (st.rd v).core ⟨K⟩ st
 | .nxt j=>g=none∧@nxtVC j ⟨K⟩ st
 | .rng x=>newVC (newR (.rng x) st.rd) g K st
 | .cvB x=>newVC (newR (.cvB x) st.rd) g K st
 | .box n x=>newVC (newR (.box n x) st.rd) g K st
 | .boxv n x=>newVC (newR (.boxv n x) st.rd) g K st
 | .alc zs=>newVC (newR (.alc zs) st.rd) g K st
 | .mkS z b l c=>newVC (newR (.mkS z b l c) st.rd) g K st
 | .bldS z n ps=>newVC (newR (.bldS z n ps) st.rd) g K st
 | .mkM=>newVC (newR .mkM st.rd) g K st
 | .bldT z x=>g=none∧(st.rd x).gate=true∧bldTVC z (st.rd x).core K st
 | .asgP j x=>g=none∧(st.rd x).gate=true∧asgPK j (st.rd x).core K st
 | k=>pureVC (pev k st.rd st.cont) g K st
def D.bool?:D→Option Bool
 | .bool b=>some b
 | _=>none
def gd (c:D) (want:Bool):Option Bool:=c.core.bool?.bind fun b=>some (c.gate&&(if want then b else !b))
def guardVC (v:Option Bool) (K:Bool→Prop):Prop :=
 match v with
 | some b=>K b
 | none=>False
def vcOps (P:Program) (K:St→Prop):List SOp→St→Prop
 | [],st=>K st
 | ⟨none,k⟩::r,st=>opVC P k none (vcOps P K r) st
 | ⟨some (j,want),k⟩::r,st=>guardVC (gd (st.rd (.t j)) want) fun b=>opVC P k (some b) (vcOps P K r) st
structure Ex where
 ex:Nat→List D→Prop
 ret:List D→Prop
def condVC (v:D) (A B:Prop):Prop :=
 match v with
 | .bool b=>(b=true→A)∧(b=false→B)
 | _=>False
def begS:List Nat→St→St
 | [],st=>st
 | j::r,st=>begS r ((st.kill (qInto j)).put j .dead)
def endS:List (Nat×Nat)→St→St
 | [],st=>st
 | (j,i)::r,st=>endS r ((((st.kill (qInto j)).kill (qInto (1000+i))).put j ((((st.kill (qInto j)).kill (qInto (1000+i)))).cont (1000+i))).put (1000+i) .dead)
def ownW (i k:Nat) (x:Option D) (st:St):St :=
 match x with
 | some x=>(((st.kill (qInto k)).put k .dead).kill (qInto (1000+i))).put (1000+i) (contOf x)
 | none=>st
def ownC (i:Nat) (c:D) (st:St):St :=
 match c with
 | .sub k (s::p)=>if 1000≤k then (((st.kill (qDeep k (s::p))).put k (((st.kill (qDeep k (s::p))).cont k).hole (s::p))).kill (qInto (1000+i))).put (1000+i) (contOf ((st.cont k).dat (s::p))) else st
 | .sub k []=>if 1000≤k then ownW i k (st.cont k).tk? st else st
 | _=>st
def ownL:List (Nat×Nat)→St→St
 | [],st=>st
 | (_,i)::r,st=>ownL r (ownC i (st.cont (1000+i)) st)
def fin (post:List (Nat×Nat)) (st:St):List D:=((endS post (ownL post st)).kill qTmp).env
class LH where
 body:(List D→Prop)→Ex→List D→Prop
 E:Ex
def loopVC [h:LH] (env:List D):Prop :=
 ∃ (js:List Nat) (α:Type) (S:α→List D) (I:α→Prop) (μ:α→Nat) (x0:α),I x0∧(begS js ⟨env,0,[]⟩).env=S x0∧∀ x,I x→h.body (fun env'=>∃ x',I x'∧μ x'<μ x∧(begS js ⟨env',0,[]⟩).env=S x') h.E (S x)
def sets (env:List D):List (Nat×D)→List D
 | []=>env
 | (j,c)::r=>sets (setN env j c) r
theorem loop_set {body:(List D→Prop)→Ex→List D→Prop} {E:Ex} {env:List D} {α:Type} (js:List Nat) (f:α→List (Nat×D)) (I:α→Prop) (μ:α→Nat) (x0:α) {env0:List D} (h0:(begS js ⟨env,0,[]⟩).env=env0)
  (hI:I x0) (he:env0=sets env0 (f x0)) (h:∀ x,I x→body (fun env'=>∃ x',I x'∧μ x'<μ x∧(begS js ⟨env',0,[]⟩).env=sets env0 (f x')) E (sets env0 (f x))):@loopVC ⟨body,E⟩ env :=
 ⟨js,α,fun x=>sets env0 (f x),I,μ,x0,hI,by rw [h0];exact he,h⟩
theorem call_of {P:Program} {f:FuncId} {pl:Prop} {K:St→Prop} {st:St} {as:List Arg} {ds:List D} {res:D} (hR:Ret P f as res) (ha:as=ds.map .v) (hn:res.novw=true∨pl) (hK:K (st.push (contOf res))):@callVC P f (some ds) true pl none ⟨K⟩ st :=
 ⟨ds,res,_,rfl,⟨rfl,ha▸hR,hn⟩,.inl rfl,hK⟩
theorem callv_of {P:Program} {f:FuncId} {pl:Prop} {K:St→Prop} {st:St} {as:List Arg} {ds:List D} {res:D} (hR:Ret P f as res) (ha:as=ds.map .v) (hn:res.novw=true∨pl) (hK:K (st.push (contOf (.vw res)))):@callVC P f (some ds) true pl none ⟨K⟩ st :=
 ⟨ds,res,_,rfl,⟨rfl,ha▸hR,hn⟩,.inr rfl,hK⟩
theorem callg_of {P:Program} {f:FuncId} {gt:Bool} {pl:Prop} {K:St→Prop} {st:St} {as:List Arg} {ds:List D} {res:D} {b:Bool} (hR:b=true→Ret P f as res) (ha:as=ds.map .v) (hgt:b=true→gt=true) (hn:res.novw=true∨pl) (hK:K (st.push (.when b res))) :
  @callVC P f (some ds) gt pl (some b) ⟨K⟩ st:=⟨ds,res,_,rfl,fun hb=>⟨hgt hb,ha▸hR hb,hn⟩,rfl,hK⟩
theorem io_tree {P:Program} {f:FuncId} {pl:Prop} {K:St→Prop} {st:St} {as:List Arg} {ds:List D} {x y res:D} {k:Nat} (hR:Ret P f as res) (ha:as=.io (.o x) (.o y)::ds.map .v) (hpl:pl) (hc:st.cont k=.o x)
  (hK:K (((st.kill (qDeep k [])).put k (.o y)).push (contOf res))):@ioVC P f (.sub k []) (some ds) true pl none ⟨K⟩ st :=
 ⟨rfl,rfl,hpl,ds,rfl,x,y,res,hc,ha▸hR,hK⟩
theorem io_part {P:Program} {f:FuncId} {pl:Prop} {K:St→Prop} {st:St} {as:List Arg} {ds:List D} {res:D} {k:Nat} {s:Nat×Nat} {p:Path} (hR:Ret P f as res) (hpl:pl)
  (h:absL [.sub k (s::p)] (fun l st=>∃ x y,l=[x]∧as=.io (.o x) (.o y)::ds.map .v∧fillL [.sub k (s::p)] [y] (fun st=>K (st.push (contOf res))) st) st):@ioVC P f (.sub k (s::p)) (some ds) true pl none ⟨K⟩ st :=
 ⟨rfl,rfl,hpl,ds,rfl,absL_imp _ (fun _ _ ⟨x,y,h1,h2,h3⟩=>⟨x,y,res,h1,h2▸hR,h3⟩) h⟩
def vcT (P:Program):RT→(List D→Prop)→St→Prop
 | .leaf l post,K,st=>vcOps P (fun st=>K (fin post st)) l st
 | .two _ _ _ a b,K,st=>vcT P a K st∧vcT P b K st
def vcC (P:Program):C→(List D→Prop)→Ex→List D→Prop
 | .skip,K,_,env=>K env
 | .ops pre l post,K,_,env=>vcOps P (fun st=>K (fin post st)) l (begS pre ⟨env,0,[]⟩)
 | .opc pre l post x a b,K,E,env=>vcOps P (fun st=>(st.rd x).gate=true∧condVC (st.rd x).core (vcC P a K E (fin post st)) (vcC P b K E (fin post st))) l (begS pre ⟨env,0,[]⟩)
 | .opq pre l post x a b c,K,E,env=>vcOps P (fun st=>(st.rd x).gate=true∧condVC (st.rd x).core (vcC P a (vcC P c K E) E (fin post st)) (vcC P b (vcC P c K E) E (fin post st))) l (begS pre ⟨env,0,[]⟩)
 | .seq a b,K,E,env=>vcC P a (vcC P b K E) E env
 | .cond x a b,K,E,env=>condVC ((⟨env,0,[]⟩:St).rd x) (vcC P a K E env) (vcC P b K E env)
 | .block id c,K,E,env=>vcC P c K ⟨fun i s=>if i=id then K s else E.ex i s,E.ret⟩ env
 | .loop c,_,E,env=>@loopVC ⟨vcC P c,E⟩ env
 | .exit id,_,E,env=>E.ex id env
 | .ret,_,E,env=>E.ret env
 | .alt pre t,K,_,env=>vcT P t K (begS pre ⟨env,0,[]⟩)
end Go.D3
