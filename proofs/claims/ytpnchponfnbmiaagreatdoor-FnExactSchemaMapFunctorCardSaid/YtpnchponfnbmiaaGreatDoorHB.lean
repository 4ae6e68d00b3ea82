/- WHAT A READING SAYS OF A VALUE; struct literals, comparisons of structs, slices of views, function values. Generic. -/
import Derived.Test.YtpnchponfnbmiaaGreatDoorHA
import Derived.Attr
import Derived.Laws.Entries
import Derived.Laws.Tables
import Derived.Laws.MakeOwn
import Derived.Laws.Cells
import Derived.Laws.StructEq
import Derived.Orders
namespace Go.D3
open Go
structure St where
 env:List D
 n:Nat
 tmp:List D
def nth:List D->Nat->D
 | [],_=>.dead
 | a::_,0=>a
 | _::l,i+1=>nth l i
def ew:List D->Nat->D->List D
 | [],_,_=>[]
 | _::l,0,x=>x::l
 | a::l,i+1,x=>a::ew l i x
def St.cont(st:St)(k:Nat):D:=if k<1000 then nth st.env k else if k<1000+st.n then nth st.tmp (999+st.n-k) else .dead
def St.put(st:St)(k:Nat)(c:D):St:=if k<1000 then⟨ew st.env k c,st.n,st.tmp⟩ else if k<1000+st.n then⟨st.env,st.n,ew st.tmp (999+st.n-k) c⟩ else st
def St.push(st:St)(c:D):St:=⟨st.env,st.n+1,c::st.tmp⟩
def St.kill(st:St)(q:D->Bool):St:=⟨dC q st.env,st.n,dC q st.tmp⟩
def St.rd(st:St):X->D
 | .t i=>bX (1000+i) (st.cont (1000+i))
 | .v j=>bX j (st.cont j)
 | .i n=>.int .i64 n
 | .k d=>d
 | .g n=>(gl n).getD .dead
def aP(k:Nat):D->Bool
 | .sub j _=>j == k
 | .ay j _=>j == k
 | _=>false
def eH:D->Bool
 | .sub j _=>decide (1000<=j)
 | .ay j _=>decide (1000<=j)
 | _=>false
def D.hole(c:D)(p:Path):D:=c.setAt p (dR c p)
def D.o?:D->Option D
 | .o x=>some x
 | _=>none
def D.bQ:D->Bool
 | .int _ _ | .bool _ | .str _=>true
 | _=>false
def gZ:List D->Bool
 | []=>true
 | x::r=>x.bQ&&gZ r
def dD(f:D->Option D):List D->Option (List D)
 | []=>some []
 | x::r=>(f x).bind fun y=>(dD f r).bind fun l=>some (y::l)
def D.eo:D->Option D
 | .int k n=>some (.int k n)
 | .bool b=>some (.bool b)
 | .str s=>some (.str s)
 | .aN=>some .aN
 | .slice z l=>some (.vw (.slice z l))
 | .ptr l=>some (.vw (.ptr l))
 | .aC z=>some (.slice z [])
 | _=>none
def D.pq:D->Option D
 | .agg l=>(dD D.eo l).bind fun l'=>some (.agg l')
 | x=>x.eo
def D.rn:D->Option D
 | .o x=>some x
 | c=>c.eo
def D.hZ:D->Option D
 | .o x=>some x
 | .row z l=>(dD D.pq l).bind fun l'=>some (.slice z l')
 | .box l=>(dD D.rn l).bind fun l'=>some (.ptr l')
 | _=>none
def cn{α:Type}(x:Option α)(K:α->Prop):Prop :=
 match x with
 | some a=>K a
 | none=>False
def dH(k:Nat)(p:Path)(K:D->St->Prop)(st:St):Prop :=
 match p with
 | []=>cn (st.cont k).hZ fun x=>K x ((st.kill (aP k)).put k .dead)
 | s::p=>K ((st.cont k).aZ (s::p)) ((st.kill (bx k (s::p))).put k (((st.kill (bx k (s::p))).cont k).hole (s::p)))
def lr(k:Nat)(p:Path):D->Prop
 | .sub j q=>j≠k\/apart p q=true
 | .ay j q=>j≠k\/apart p q=true
 | _=>True
def mf(r:List D):D->Prop
 | .sub k p=>bB (lr k p) r
 | _=>True
mutual
def av:D->(D->St->Prop)->St->Prop
 | .int k n,K,st=>K (.int k n) st
 | .bool b,K,st=>K (.bool b) st
 | .str s,K,st=>K (.str s) st
 | .aN,K,st=>K .aN st
 | .fn f [],K,st=>K (.fn f []) st
 | .fn f (c::r),K,st=>(D.fn f (c::r)).refs (fun _=>False)/\K (.vw (.fn f (c::r))) st
 | .sub k p,K,st=>dH k p K st
 | .agg l,K,st=>bN l (fun l' st=>K (.agg l') st) st
 | .slice z l,K,st=>K (.vw (.slice z l)) st
 | .ptr l,K,st=>K (.vw (.ptr l)) st
 | .aC z,K,st=>K (.slice z []) st
 | .bA,K,st=>K .bA st
 | .bc,K,st=>K .bc st
 | .bk t x,K,st=>K (.bk t x) st
 | _,_,_=>False
def bN:List D->(List D->St->Prop)->St->Prop
 | [],K,st=>K [] st
 | x::r,K,st=>x.refs (mf r)/\av x (fun x' st=>bN r (fun r' st=>K (x'::r') st) st) st
end
theorem Tu{k:Nat}{p:Path}{K K':D->St->Prop}(hK:∀x st,K x st->K' x st){st:St}(h:dH k p K st):dH k p K' st:=by
 cases p with
 | nil =>
  simp only[dH] at h|-
  cases hc:(st.cont k).hZ with
  | none=>rw[hc] at h;exact h.elim
  | some x=>rw[hc] at h;exact hK _ _ h
 | cons s p=>simp only[dH] at h|-;exact hK _ _ h
mutual
theorem Ir:∀(d:D){K K':D->St->Prop}(_:∀x st,K x st->K' x st){st:St},av d K st->av d K' st
 | .int _ _,K,K',hK,st,h=>by simp only[av] at h|-;exact hK _ _ h
 | .bool _,K,K',hK,st,h=>by simp only[av] at h|-;exact hK _ _ h
 | .str _,K,K',hK,st,h=>by simp only[av] at h|-;exact hK _ _ h
 | .aN,K,K',hK,st,h=>by simp only[av] at h|-;exact hK _ _ h
 | .fn _ [],K,K',hK,st,h=>by simp only[av] at h|-;exact hK _ _ h
 | .slice _ _,K,K',hK,st,h=>by simp only[av] at h|-;exact hK _ _ h
 | .ptr _,K,K',hK,st,h=>by simp only[av] at h|-;exact hK _ _ h
 | .aC _,K,K',hK,st,h=>by simp only[av] at h|-;exact hK _ _ h
 | .bA,K,K',hK,st,h=>by simp only[av] at h|-;exact hK _ _ h
 | .bc,K,K',hK,st,h=>by simp only[av] at h|-;exact hK _ _ h
 | .bk _ _,K,K',hK,st,h=>by simp only[av] at h|-;exact hK _ _ h
 | .mp _ _,K,K',hK,st,h=>by simp only[av] at h
 | .bG _ _,K,K',hK,st,h=>by simp only[av] at h
 | .fH _,K,K',hK,st,h=>by simp only[av] at h
 | .pre _ _ _,K,K',hK,st,h=>by simp only[av] at h
 | .sub k p,K,K',hK,st,h=>by simp only[av] at h|-;exact Tu hK h
 | .agg l,K,K',hK,st,h=>by simp only[av] at h|-;exact p9 l (fun _ _ h=>hK _ _ h) h
 | .fn _ (_::_),K,K',hK,st,h=>by simp only[av] at h|-;exact⟨h.1,hK _ _ h.2⟩
 | .af _,K,K',hK,st,h=>by simp only[av] at h
 | .vw _,K,K',hK,st,h=>by simp only[av] at h
 | .o _,K,K',hK,st,h=>by simp only[av] at h
 | .box _,K,K',hK,st,h=>by simp only[av] at h
 | .row _ _,K,K',hK,st,h=>by simp only[av] at h
 | .ay _ _,K,K',hK,st,h=>by simp only[av] at h
 | .when _ _,K,K',hK,st,h=>by simp only[av] at h
 | .dead,K,K',hK,st,h=>by simp only[av] at h
theorem p9:∀(l:List D){K K':List D->St->Prop}(_:∀x st,K x st->K' x st){st:St},bN l K st->bN l K' st
 | [],K,K',hK,st,h=>by simp only[bN] at h|-;exact hK _ _ h
 | x::r,K,K',hK,st,h=>by simp only[bN] at h|-;exact⟨h.1,Ir x (fun _ _ h=>p9 r (fun _ _ h=>hK _ _ h) h) h.2⟩
end
def aM:D->D
 | .vw (.slice z l)=>.slice z l
 | .vw (.ptr l)=>.ptr l
 | .vw (.agg l)=>.agg l
 | .vw (.fn f l)=>.fn f l
 | .vw (.mp ks vs)=>.mp ks vs
 | .vw (.af l)=>.af l
 | .vw _=>.dead
 | .int k n=>.int k n
 | .bool b=>.bool b
 | .str s=>.str s
 | .aN=>.aN
 | .fn f l=>.fn f l
 | .dead=>.dead
 | .bA=>.bA
 | .bc=>.bc
 | .bk t x=>.bk t x
 | d=>.o d
def pQ(z:D):List D->Bool
 | []=>true
 | x::r=>decide (x.cells.length=z.cells.length)&&pQ z r
def D.px:D->Nat->Option D
 | .o (.ptr l),n=>some (.ptr (l.drop n))
 | _,_=>none
def aU(ob:Nat->D):Nat->D->Option D
 | 0,_=>none
 | n+1,d=>match d with
  | .sub k p=>(lk ob k).bind fun c=>match c with
   | .row z l=>(dD (aU ob n) l).bind fun l'=>if pQ z l'=true then some (.slice z l') else none
   | c=>if(c.aZ p).isAgg=true then none else some (c.aZ p)
  | .pre k p m=>(lk ob k).bind fun c=>match c with
   | .row _ _=>none
   | c=>match c.aZ p with
    | .slice z l=>some (.slice z (l.take m))
    | _=>none
  | .ay k p=>(lk ob k).bind fun c=>match c,p with
   | .box l,[(_,off)]=>(dD (aU ob n) l).bind fun l'=>some (.ptr (l'.drop off))
   | .o (.ptr l),[(_,off)]=>some (.ptr (l.drop off))
   | .box l,[(_,off),(_,o2)]=>(l.getD off .dead).px o2
   | _,_=>none
  | .agg l=>(dD (aU ob n) l).bind fun l'=>some (.agg l')
  | .o x=>some x
  | .aC z=>some (.slice z [])
  | .af _=>none
  | .dead=>none
  | .when _ _=>none
  | .box _=>none
  | .row _ _=>none
  | .fn f l=>(dD (aU ob n) l).bind fun l'=>some (.fn f l')
  | x=>some x
def gr(ob:Nat->D)(rd:X->D):List X->Option (List D)
 | []=>some []
 | x::r=>(aU ob 4 (rd x).core).bind fun y=>(gr ob rd r).bind fun l=>some (y::l)
def de(rd:X->D):List X->Bool
 | []=>true
 | x::r=>(rd x).gate&&de rd r
mutual
def D.bd:D->Bool
 | .vw _=>false
 | .bk _ _=>false
 | .slice _ l=>dU l
 | .agg l=>dU l
 | .af l=>dU l
 | .ptr l=>dU l
 | _=>true
def dU:List D->Bool
 | []=>true
 | x::r=>x.bd&&dU r
end
def db:D->Prop:=fun _=>False
def jk(rd:X->D):List X->Prop
 | []=>True
 | x::r=>(rd x).core.refs db/\jk rd r
def jR(g:Option Bool)(p:Prop):Prop :=
 match g with
 | none=>p
 | some b=>b=true->p
def oe(g:Option Bool)(v:D):D :=
 match g with
 | none=>v
 | some b=>.when b v
def D.b0:D->Bool
 | .o _ | .box _ | .row _ _ | .when _ _=>false
 | _=>true
def fW(r:Option PR)(g:Option Bool)(K:St->Prop)(st:St):Prop :=
 match r with
 | none=>g=some false/\K (st.push (.when false (.bool false)))
 | some (side,res)=>jR g side/\res.b0=true/\K (st.push (oe g res))
def eF(r:Option PR)(g:Option Bool)(K:St->Prop)(st:St):Prop :=
 match g,r with
 | none,some (side,c)=>side/\K (st.push c)
 | _,_=>False
def D.eT:D->Option D
 | .int k n=>some (.int k n)
 | .bool b=>some (.bool b)
 | .str s=>some (.str s)
 | .aN=>some .aN
 | .slice z l=>some (.slice z l)
 | .ptr l=>some (.ptr l)
 | .aC z=>some (.slice z [])
 | .fn f []=>some (.fn f [])
 | .mp ks vs=>some (.mp ks vs)
 | .bA=>some .bA
 | .bc=>some .bc
 | .bk t x=>some (.bk t x)
 | _=>none
def nF:List D->Bool
 | []=>true
 | x::r=>x.pc&&nF r
def uL(n:Nat)(x:D):Option PR:=x.core.cellsOf.bind fun l=>some ((x.gate=true/\0<n/\nF l=true)/\l.length=n,.box l)
def uN(n:Nat)(x:D):Option PR:=x.core.cellsOf.bind fun l=>(dD D.eT l).bind fun l'=>some (x.gate=true/\l.length=n,.ptr l')
def wg(z:D)(bytes:Nat)(l c:D):Option PR :=
 l.core.int?.bind fun a=>c.core.int?.bind fun b=>some ((l.gate=true/\c.gate=true)/\0<=a/\a<=b/\bytes*b<=281474976710656,.o (.slice z (List.replicate a.toNat z)))
def lF(rd:X->D)(sz:Nat):List D->List (Nat×X)->Option (Bool×List D)
 | es,[]=>some (true,es)
 | es,(i,x)::r=>(rd x).core.cellsOf.bind fun l =>
  if l.length=sz/\i<es.length/\nF l=true then(lF rd sz (ew es i (rd x).core) r).bind fun p=>some ((rd x).gate&&p.1,p.2) else none
def four:List D->Bool
 | []=>false
 | [_]=>false
 | [_,_]=>false
 | [_,_,_]=>false
 | _::_::_::_::_=>true
def xO:Bool->D->List D->D
 | true,z,l=>.o (.slice z l)
 | false,z,l=>.row z l
def qf(rd:X->D)(z:D)(n:Nat)(parts:List (Nat×X)):Option PR :=
 match n,parts with
 | 0,[]=>some (True,.o (.slice z []))
 | 0,_=>none
 | n+1,parts=>(lF rd z.cells.length (List.replicate (n+1) z) parts).bind fun p=>some (p.1=true,xO (four p.2&&gZ p.2) z p.2)
def xN(x:D):Option PR:=x.core.mo.bind fun s=>some (x.gate=true,.o (.bG s 0))
def u7(x:D):Option PR:=x.core.mo.bind fun s=>some (x.gate=true/\s.length<=140737488355328,.o (uO s))
def bK(k:Kp)(rd:X->D):Option PR :=
 match k with
 | .fw x=>u7 (rd x)
 | .box n x=>uL n (rd x)
 | .fa n x=>uN n (rd x)
 | .eN zs=>some (zs≠[],.box zs)
 | .ae z bytes l c=>wg z bytes (rd l) (rd c)
 | .cd z n parts=>qf rd z n parts
 | .fC=>some (True,.o (.mp [] []))
 | .eW x=>xN (rd x)
 | _=>none
def dY(P:Program)(f:FuncId):Bool:=match P.funcs[f]? with
 | some fn=>fn.body.isSome&&!(fn.name == "runtime.NumGoroutine")
 | none=>false
def bV[Mode](P:Program)(f:FuncId)(as gs:List D)(Q:D->List D->Prop):Prop :=
 dY P f=true/\∀(w:World)(A:Nat->Prop)(vs:Array Value)(gv:Nat->Value)(Fs:Nat->Nat->Prop),fK w A->(∀b,A b->b<w.heap.size)->vs.size=as.length ->
  (∀(j:Nat)(a:D),as[j]?=some a->Pl w A (aa w (nth gs) gv) (vs.getD j undef) a) ->
  (∀k,aE w A (aa w (nth gs) gv) (gv k) (Fs k) (nth gs k))->(∀k,(nth gs k).isObj=false->∀b,¬Fs k b) ->
  (∀i j b,i≠j->Fs i b->¬Fs j b)->(∀k b,Fs k b->b<w.heap.size/\¬A b) ->
  Calls P f vs w fun e w'=>∃(rc:D)(gs':List D)(v:Value)(F:Nat->Prop)(gv':Nat->Value)(Fs':Nat->Nat->Prop),Q rc gs'/\e=.returned v/\w.heap.size<=w'.heap.size /\
   aE w' (fun b=>A b\/(w.heap.size<=b/\b<w'.heap.size/\¬F b/\∀j,¬Fs' j b)) (aa w' (nth gs') gv') v F rc/\(rc.isObj=false->∀b,¬F b) /\
   (∀k,aE w' (fun b=>A b\/(w.heap.size<=b/\b<w'.heap.size/\¬F b/\∀j,¬Fs' j b)) (aa w' (nth gs') gv') (gv' k) (Fs' k) (nth gs' k))/\(∀k,(nth gs' k).isObj=false->∀b,¬Fs' k b) /\
   (∀k,nth gs k≠.dead->gv' k=gv k) /\
   (∀b,F b->b<w'.heap.size/\(w.heap.size<=b\/∃j,Fs j b)/\∀j,¬Fs' j b)/\(∀j b,Fs' j b->b<w'.heap.size/\(w.heap.size<=b\/∃j,Fs j b))/\(∀i j b,i≠j->Fs' i b->¬Fs' j b) /\
   (∀b,b<w.heap.size->(∀j,¬Fs j b)->w'.heap[b]?=w.heap[b]?)/\w'.os=w.os/\w'.tape=w.tape/\cB w w'
def iM[Mode](P:Program)(f:FuncId)(as gs:List D)(rc:D)(gs':List D):Prop:=bV P f as gs fun r g=>r=rc/\g=gs'
theorem bV.imp[Mode]{P:Program}{f:FuncId}{as gs:List D}{Q Q':D->List D->Prop}(h:bV P f as gs Q)(hQ:∀r g,Q r g->Q' r g):bV P f as gs Q' :=
 ⟨h.1,fun w A vs gv Fs h0 h1 h2 h3 h4 h5 h6 h7=>(h.2 w A vs gv Fs h0 h1 h2 h3 h4 h5 h6 h7).mono fun _ _ ⟨rc,gs',v,F,gv',Fs',q,r⟩=>⟨rc,gs',v,F,gv',Fs',hQ _ _ q,r⟩⟩
def AJ[Mode](P:Program)(f:FuncId)(as gs:List D)(rc:D):Prop :=
 dY P f=true/\∀(w:World)(A:Nat->Prop)(vs:Array Value)(gv:Nat->Value)(Fs:Nat->Nat->Prop),fK w A->(∀b,A b->b<w.heap.size)->vs.size=as.length ->
  (∀(j:Nat)(a:D),as[j]?=some a->Pl w A (aa w (nth gs) gv) (vs.getD j undef) a) ->
  (∀k,aE w A (aa w (nth gs) gv) (gv k) (Fs k) (nth gs k))->(∀k,(nth gs k).isObj=false->∀b,¬Fs k b) ->
  (∀i j b,i≠j->Fs i b->¬Fs j b)->(∀k b,Fs k b->b<w.heap.size/\¬A b) ->
  Calls P f vs w fun e w'=>∃v:Value,e=.returned v/\w.heap.size<=w'.heap.size/\(∀b,b<w.heap.size->w'.heap[b]?=w.heap[b]?) /\
   Pl w' (fun b=>A b\/(w.heap.size<=b/\b<w'.heap.size)) (aa w (nth gs) gv) v rc/\w'.os=w.os/\w'.tape=w.tape/\cB w w'
mutual
def D.tight:D->Bool
 | .int _ _=>true
 | .bool _=>true
 | .str _=>true
 | .aN=>true
 | .aC _=>true
 | .dead=>true
 | .sub _ _=>true
 | .ay _ _=>true
 | .fn _ l=>jY l
 | .agg l=>jY l
 | .af l=>jY l
 | _=>false
def jY:List D->Bool
 | []=>true
 | x::r=>x.tight&&jY r
end
def D.pR:D->Bool
 | .o x=>x.bd
 | c=>c.tight
def pT:List D->Bool
 | []=>true
 | x::r=>x.pR&&pT r
def D.gb:D->Bool
 | .box l=>pT l
 | .row _ l=>jY l
 | c=>c.pR
def iL:List D->Bool
 | []=>true
 | x::r=>x.gb&&iL r
class KH where
 k:St->Prop
def D.BU:D->D
 | .vw d=>d
 | d=>d
def D.vh:D->D
 | .agg l=>.agg (l.map D.BU)
 | d=>d
theorem P8{w:World}{A:Nat->Prop}{v:Value}{d:D}(h:Rd w A v d):Rd w A v d.BU:=by
 cases d<;>first | exact h | (cases h;assumption)
theorem P9{w:World}{A:Nat->Prop}{v:Value}{d:D}(h:Rd w A v d):Rd w A v d.vh:=by
 cases d with
 | agg l =>
  cases h with
  | agg hs hr =>
   refine .agg (by rw[List.length_map];exact hs) fun j x hx=>?_
   rw[List.getElem?_map,Option.map_eq_some_iff] at hx;obtain⟨y,hy,rfl⟩:=hx;exact P8 (hr j y hy)
 | _=>exact h
def uP(g:Option Bool)(res c:D):Prop :=
 match g with
 | none=>c=aM res\/c=aM (.vw res)
 | some b=>c=.when b res\/c=.when b res.vh
def jA[Mode](P:Program)(f:FuncId)(ds:Option (List D))(gt:Bool)(pl:Prop)(g:Option Bool)[K:KH](st:St):Prop :=
 ∃l res c,ds=some l/\jR g (gt=true/\al P f (l.map .v) res/\(res.bd=true\/pl))/\uP g res c/\K.k (st.push c)
def D.vu(c:D)(p:Path)(y:D):D:=c.setAt p (if a8 c p=true then .o y else y)
def oM(x:D)(r:List D)(y:D)(K:St->Prop)(st:St):Prop :=
 match x with
 | .sub k (s::p)=>y.isAgg=false/\bB (fun d=>bx k (s::p) d=false) r/\K ((st.kill (bx k (s::p))).put k (((st.kill (bx k (s::p))).cont k).vu (s::p) y))
 | _=>K st
def eD:List D->List D->(St->Prop)->St->Prop
 | [],[],K,st=>K st
 | x::r,y::ys,K,st=>oM x r y (eD r ys K) st
 | _,_,_,_=>False
def ja[Mode](P:Program)(f:FuncId)(d:D)(ds:Option (List D))(gt:Bool)(pl:Prop)(g:Option Bool)[K:KH](st:St):Prop :=
 g=none/\gt=true/\pl/\∃dl,ds=some dl/\match d with
  | .ay k [(0,0)]=>∃l l' res,st.cont k=.box l/\bB db l/\bB db l'/\l'.length=l.length/\al P f (.io (.box l) (.box l')::dl.map .v) res/\K.k (((st.kill (ba k [(0,0)])).put k (.box l')).push (aM res))
  | .sub k []=>∃x y res,st.cont k=.o x/\al P f (.io (.o x) (.o y)::dl.map .v) res/\K.k (((st.kill (bx k [])).put k (.o y)).push (aM res))
  | .sub k (s::p)=>bN [.sub k (s::p)] (fun l st=>∃x y res,l=[x]/\al P f (.io (.o x) (.o y)::dl.map .v) res/\eD [.sub k (s::p)] [y] (fun st=>K.k (st.push (aM res))) st) st
  | .agg l=>bN l (fun xs st=>∃ys res,al P f (.io (.o (.agg xs)) (.o (.agg ys))::dl.map .v) res/\eD l ys (fun st=>K.k (st.push (aM res))) st) st
  | _=>False
def sg(n:Nat)(js:List Nat)(i:Nat):Nat:=(js[i]?).getD (1000+n+i)
def iy(st:St)(σ:Nat->Nat):List Nat->List D->Prop
 | [],[]=>True
 | j::js,g::gs=>st.cont j=g.an σ/\iy st σ js gs
 | _,_=>False
def ik(st:St)(σ:Nat->Nat)(js:List Nat)(tg:Bool):List D->List D->Prop
 | [],[]=>True
 | d::ds,a::as=>(d=a.an σ\/(tg=true/\aU (fun k=>if js.contains k=true then .dead else st.cont k) 4 d=some a))/\ik st σ js tg ds as
 | _,_=>False
def tI:D->D->Bool
 | .o _,.o _=>true
 | _,_=>false
def tH:D->D->Bool
 | .box l,.box l'=>l.length == l'.length
 | _,_=>false
def nJ(j:Nat)(g h:D):D->Bool
 | .sub k p=>k == j&&!(p.isEmpty&&tI g h)
 | .ay k p=>k == j&&!(p.length == 1&&tH g h)
 | _=>false
def qG:List Nat->List D->List D->D->Bool
 | j::js,g::gs,h::hs,d=>nJ j g h d || qG js gs hs d
 | _,_,_,_=>false
def eU(σ:Nat->Nat)(st:St):List Nat->List D->St
 | j::js,h::hs=>eU σ (st.put j (h.an σ)) js hs
 | _,_=>st
def iD:List D->List D->Prop
 | [],[]=>True
 | g::gs,h::hs=>(g=.dead->h=.dead)/\iD gs hs
 | _,_=>False
def Ch[Mode](P:Program)(f:FuncId)(ds:List D)(st:St)(K:D->St->Prop):Prop :=
 ∃(js:List Nat)(tg:Bool)(as gs:List D)(Q:D->List D->Prop),bV P f as gs Q/\(js.Nodup/\js.all (fun j=>decide (j<1000+st.n))=true)/\iy st (sg st.n js) js gs/\ik st (sg st.n js) js tg ds as /\
  ∀rc gs',Q rc gs'->iD gs gs'/\(tg=true->rc.gb=true/\iL gs'=true)/\K (rc.an (sg st.n js)) (eU (sg st.n js) (st.kill (qG js gs gs')) js gs')
def Pv[Mode](P:Program)(f:FuncId)(ds:List D)(st:St)(K:D->Prop):Prop :=
 ∃l res,dD (aU st.cont 4) ds=some l/\dY P f=true/\al P f ((stripL l).map .v) res/\res.bd=true/\K (aM res)
def jE[Mode](P:Program)(f:FuncId)(ds:List D)(gt:Bool)(gd:Bool)[K:KH](st:St):Prop :=
 gt=true/\((Ch P f ds st fun c st=>(gd=true->c.b0=true)/\K.k (st.push (if gd=true then .when true c else c)))\/(gd=false/\Pv P f ds st fun c=>K.k (st.push c)))
def jC[Mode](P:Program)(x:D)(ds:List D)(gt:Bool)(gd:Bool)[KH](st:St):Prop :=
 match x with
 | .fn f caps=>jE P f (ds++caps) gt gd st
 | _=>False
def im[Mode](P:Program)(x:D)(ds:List D)(gt:Bool)(g:Option Bool)[K:KH](st:St):Prop :=
 match g with
 | none=>jC P x ds gt false st
 | some true=>jC P x ds gt true st
 | some false=>K.k (st.push (.when false (.bool false)))
theorem UM[Mode]{P:Program}{x:D}{ds:List D}{gt:Bool}{b:Bool}{K:KH}{st:St}(ht:b=true->jC P x ds gt true st)(hf:b=false->K.k (st.push (.when false (.bool false)))):im P x ds gt (some b) st:=by
 cases b
 ·exact hf rfl
 ·exact ht rfl
def dV(rd:X->D):List X->List D
 | []=>[]
 | x::r=>(rd x).core::dV rd r
theorem Pw[Mode]{P:Program}{f:FuncId}{ds l xs:List D}{K:St->Prop}{st:St}{res:D}(hl:dD (aU st.cont 4) ds=some l)(hx:stripL l=xs)(hb:dY P f=true)(hR:al P f (xs.map .v) res)(hn:res.bd=true)(hK:K (st.push (aM res))):@jE _ P f ds true false ⟨K⟩ st :=
 ⟨rfl,.inr ⟨rfl,l,res,hl,hb,hx▸hR,hn,hK⟩⟩
theorem Ke[Mode]{P:Program}{f:FuncId}{ds:List D}{K:St->Prop}{st:St}{as gs gs':List D}{rc:D}(js:List Nat)(tg:Bool)(hR:iM P f as gs rc gs')(hn:js.Nodup/\js.all (fun j=>decide (j<1000+st.n))=true)(hl:iy st (sg st.n js) js gs)(ha:ik st (sg st.n js) js tg ds as)
  (hw:iD gs gs') (ht:tg=true->rc.gb=true/\iL gs'=true) (hK:K ((eU (sg st.n js) (st.kill (qG js gs gs')) js gs').push (rc.an (sg st.n js)))):@jE _ P f ds true false ⟨K⟩ st :=
 ⟨rfl,.inl ⟨js,tg,as,gs,_,hR,hn,hl,ha,fun _ _ h=>by obtain⟨rfl,rfl⟩:=h;exact⟨hw,ht,fun h=>(by cases h),hK⟩⟩⟩
theorem US[Mode]{P:Program}{f:FuncId}{ds:List D}{gt:Bool}{K:St->Prop}{st:St}{as gs gs':List D}{rc:D}(js:List Nat)(tg:Bool)(hgt:gt=true)(hR:iM P f as gs rc gs')(hn:js.Nodup/\js.all (fun j=>decide (j<1000+st.n))=true)(hl:iy st (sg st.n js) js gs)(ha:ik st (sg st.n js) js tg ds as)
  (hw:iD gs gs') (ht:tg=true->rc.gb=true/\iL gs'=true) (ho:(rc.an (sg st.n js)).b0=true) (hK:K ((eU (sg st.n js) (st.kill (qG js gs gs')) js gs').push (.when true (rc.an (sg st.n js))))):@jE _ P f ds gt true ⟨K⟩ st :=
 ⟨hgt,.inl ⟨js,tg,as,gs,_,hR,hn,hl,ha,fun _ _ h=>by obtain⟨rfl,rfl⟩:=h;exact⟨hw,ht,fun _=>ho,hK⟩⟩⟩
theorem JY[Mode]{P:Program}{f:FuncId}{ds:List D}{K:St->Prop}{st:St}{as gs:List D}{Q:D->List D->Prop}(js:List Nat)(tg:Bool)(hR:bV P f as gs Q)(hn:js.Nodup/\js.all (fun j=>decide (j<1000+st.n))=true)(hl:iy st (sg st.n js) js gs)(ha:ik st (sg st.n js) js tg ds as)
  (hK:∀rc gs',Q rc gs'->iD gs gs'/\(tg=true->rc.gb=true/\iL gs'=true)/\K ((eU (sg st.n js) (st.kill (qG js gs gs')) js gs').push (rc.an (sg st.n js)))):@jE _ P f ds true false ⟨K⟩ st :=
 ⟨rfl,.inl ⟨js,tg,as,gs,_,hR,hn,hl,ha,fun _ _ h=>⟨(hK _ _ h).1,(hK _ _ h).2.1,fun h=>(by cases h),(hK _ _ h).2.2⟩⟩⟩
theorem UN[Mode]{P:Program}{f:FuncId}{ds:List D}{gt:Bool}{K:St->Prop}{st:St}{as gs:List D}{Q:D->List D->Prop}(js:List Nat)(tg:Bool)(hgt:gt=true)(hR:bV P f as gs Q)(hn:js.Nodup/\js.all (fun j=>decide (j<1000+st.n))=true)(hl:iy st (sg st.n js) js gs)(ha:ik st (sg st.n js) js tg ds as)
  (hK:∀rc gs',Q rc gs'->iD gs gs'/\(tg=true->rc.gb=true/\iL gs'=true)/\(rc.an (sg st.n js)).b0=true/\K ((eU (sg st.n js) (st.kill (qG js gs gs')) js gs').push (.when true (rc.an (sg st.n js))))):@jE _ P f ds gt true ⟨K⟩ st :=
 ⟨hgt,.inl ⟨js,tg,as,gs,_,hR,hn,hl,ha,fun _ _ h=>⟨(hK _ _ h).1,(hK _ _ h).2.1,fun _=>(hK _ _ h).2.2.1,(hK _ _ h).2.2.2⟩⟩⟩
def sj(js:List Nat)(i:Nat):Nat:=(js[i]?).getD 0
def gP(n:Nat):D->Prop
 | .sub k _=>k<n
 | .ay k _=>k<n
 | _=>True
def o6(ob:Nat->D)(σ:Nat->Nat):List Nat->List D->Prop
 | [],[]=>True
 | j::js,g::gs=>(j<1000/\ob j=g.an σ)/\o6 ob σ js gs
 | _,_=>False
def rM(σ:Nat->Nat):List D->List D->Prop
 | [],[]=>True
 | d::ds,a::as=>d=a.an σ/\rM σ ds as
 | _,_=>False
def mF[Mode](P:Program)(f:FuncId)(ob:Nat->D)(ds:List D)(c:D):Prop :=
 ∃(js:List Nat)(as gs:List D)(rc:D),AJ P f as gs rc/\js.Nodup/\o6 ob (sj js) js gs/\rM (sj js) ds as/\(bB (gP js.length) as/\bB (gP js.length) gs/\rc.refs (gP js.length))/\rc.b0=true/\c=rc.an (sj js)
def Bu[Mode](P:Program)(f:FuncId)(ds:List D)[K:KH](st:St):Prop:=∃c,mF P f st.cont ds c/\K.k (st.push c)
theorem U1[Mode]{P:Program}{f:FuncId}{ds:List D}{K:St->Prop}{st:St}{as gs:List D}{rc:D}(js:List Nat)(hR:AJ P f as gs rc)(hn:js.Nodup)(hl:o6 st.cont (sj js) js gs)(ha:rM (sj js) ds as)
  (hr:bB (gP js.length) as/\bB (gP js.length) gs/\rc.refs (gP js.length)) (ho:rc.b0=true) (hK:K (st.push (rc.an (sj js)))):@Bu _ P f ds ⟨K⟩ st :=
 ⟨_,⟨js,as,gs,rc,hR,hn,hl,ha,hr,ho,rfl⟩,hK⟩
def jz(d:D)(K:D->St->Prop)(st:St):Prop :=
 match d with
 | .ay j [(0,0)]=>((st.kill (aP j)).cont j).isObj=true/\(st.cont j).gu=false/\K ((st.kill (aP j)).cont j) ((st.kill (aP j)).put j .dead)
 | _=>False
def lu(j:Nat)(x:D)(K:St->Prop)(st:St):Prop :=
 av x (fun d st=>K (((st.kill (aP j)).put j (aM d)).push .dead)) st
def D.l7:D->Bool
 | .o _ | .box _ | .row _ _ | .when _ _ | .dead=>false
 | _=>true
def ou(j:Nat)(x:D)(K:St->Prop)(st:St):Prop :=
 x.refs (bZ j)/\x.l7=true/\K (((st.kill (aP j)).put j x).push .dead)
def ib:Path->Path
 | []=>[]
 | [_]=>[]
 | s::t::r=>s::ib (t::r)
def kB:Path->Bool
 | []=>false
 | [s]=>s.1 == 0&&s.2 == 0
 | _::t::r=>kB (t::r)
def D.qv:D->Bool
 | .ptr _=>true
 | _=>false
def j0(j:Nat)(x:D)(K:St->Prop)(st:St):Prop :=
 match x with
 | .ay k q=>kB q=true/\dH k (ib q) (fun d st=>d.qv=true/\K (((st.kill (aP j)).put j (aM d)).push .dead)) st
 | x=>lu j x K st
theorem CO:∀{q:Path},kB q=true->q=ib q++[(0,0)]
 | [],h=>by cases h
 | [(a,b)],h=>by
  simp only[kB,Bool.and_eq_true,beq_iff_eq] at h;rw[h.1,h.2];rfl
 | s::t::r,h=>by
  have:=CO (q:=t::r) h;show s::t::r=s::(ib (t::r)++[(0,0)]);rw[<-this]
def xW(k:Nat)(p:Path):D->Prop
 | .sub j q=>j≠k\/(q≠[]/\fP q p=false)
 | _=>True
def cY(c:D)(p:Path):Nat->List D->D
 | _,[]=>c
 | j,y::r=>cY (c.setAt (bump p j) (if a8 c (bump p j)=true then aM y else y)) p (j+1) r
def kM(c:D)(p:Path):Nat->List D->Prop
 | _,[]=>True
 | j,y::r=>c.aS (bump p j)/\y.isAgg=false/\kM c p (j+1) r
def D.om:D->Bool
 | .ay _ _=>true
 | _=>false
def n9(k:Nat)(p:Path)(x:D)(K:St->Prop)(st:St):Prop :=
 match x with
 | .ay j q=>kB q=true/\j≠k/\dH j (ib q) (fun d st=>d.qv=true/\kM ((st.kill (ba k p)).cont k) p 0 [d] /\
    K (((st.kill (ba k p)).put k (cY ((st.kill (ba k p)).cont k) p 0 [d])).push .dead)) st
 | _=>False
def kX(b:Bool)(n k:Nat)(p:Path)(x:D)(K:St->Prop)(st:St):Prop :=
 match b with
 | true=>n=1/\n9 k p x K st
 | false=>cn x.cellsOf fun l=>l.length=n/\bB (xW k p) l/\bN l (fun l' st=>kM ((st.kill (ba k p)).cont k) p 0 l' /\
    K (((st.kill (ba k p)).put k (cY ((st.kill (ba k p)).cont k) p 0 l')).push .dead)) st
def jo(n:Nat)(a x:D)(K:St->Prop)(st:St):Prop :=
 match a with
 | .ay k p=>kX x.om n k p x K st
 | _=>False
def D.fY:D->Bool
 | .int _ _ | .bool _ | .str _ | .aN | .slice _ _ | .ptr _ | .aC _ | .sub _ _ | .ay _ _=>true
 | _=>false
def nR:List D->Bool
 | []=>true
 | x::r=>x.fY&&nR r
def D.qi:D->Option (List D)
 | .box l=>some l
 | _=>none
def nj:Path->Bool
 | []=>false
 | [s]=>s.1 == 0&&s.2 == 0
 | _::_::_=>false
theorem KK:∀{p:Path},nj p=true->p=[(0,0)]
 | [],h=>by cases h
 | [(a,b)],h=>by
  simp only[nj,Bool.and_eq_true,beq_iff_eq] at h;rw[h.1,h.2]
 | _::_::_,h=>by cases h
def pN(b:Bool)(n k:Nat)(p:Path)(x:D)(K:St->Prop)(st:St):Prop :=
 match b with
 | true=>cn (st.cont k).qi fun l0=>l0.length=n/\cn x.cellsOf fun l=>l.length=n/\nR l=true/\bB (fun d=>ba k [(0,0)] d=false) l /\
   K (((st.kill (ba k [(0,0)])).put k (.box l)).push .dead)
 | false=>kX x.om n k p x K st
def mn(n:Nat)(a x:D)(K:St->Prop)(st:St):Prop :=
 match a with
 | .ay k p=>pN (nj p) n k p x K st
 | _=>False
def D.gL:D->Option (List D)
 | .slice _ l=>some l
 | .aC _=>some []
 | _=>none
def kW(st:St)(x:D):Option (List D) :=
 match x with
 | .sub k p=>(lk st.cont k).bind fun c=>(c.aZ p).gL
 | x=>x.gL
def D.c6(y:D)(M:List D):D :=
 match y with
 | .slice z L=>.slice z (L++M)
 | y=>y
def D.row?:D->Option (List D)
 | .row _ l=>some l
 | _=>none
def isRow(st:St)(x:D):Option (List D) :=
 match x with
 | .sub k []=>(st.cont k).row?
 | _=>none
def gj(s:D)(K:D->St->Prop)(st:St):Prop :=
 match s with
 | .sub k p=>dH k p K st
 | .aC z=>K (.slice z []) st
 | _=>False
def rL(st:St)(x:D):Option (List D ⊕ List D) :=
 match isRow st x with
 | some l=>some (.inl l)
 | none=>(kW st x).bind fun M=>some (.inr M)
def qL(sz:Nat):List D->Prop
 | []=>True
 | e::r=>e.cells.length=sz/\qL sz r
def D.oX:D->Bool
 | .slice _ _=>true
 | _=>false
def D.fV:D->Bool
 | .int _ _ | .bool _ | .str _ | .slice _ _ | .aN | .ptr _ | .mp _ _ | .bA | .bk _ _ | .bc=>true
 | _=>false
def nC:List D->Bool
 | []=>true
 | x::r=>x.fV&&nC r
def D.wj(sz:Nat)(e:D):Bool:=decide (e.cells.length=sz)&&nC e.cells
def D.pd:D->Bool
 | .slice z _=>z.oX || z.isAgg
 | _=>false
def D.wm:D->Bool
 | .o x=>x.pd
 | _=>false
def nu(st:St)(x:D):Option (Nat×Path) :=
 match x with
 | .sub k []=>if(st.cont k).wm=true then some (k,[]) else none
 | .sub k (q::p)=>if((st.cont k).aZ (q::p)).pd=true then some (k,q::p) else none
 | _=>none
def mJ(sz bytes:Nat)(s x:D)(K:St->Prop)(st:St):Prop :=
 match nu st x with
 | some k=>x.refs (mf [s])/\dH k.1 k.2 (fun y st=>y.fN=sz/\cn y.gL fun M=>(∀e∈M,e.wj sz=true) /\
   gj s (fun y st=>y.fN=sz/\cn y.bU fun m=>(m+M.length)*bytes<=140737488355328/\K (st.push (.o (y.c6 M)))) st) st
 | none=>cn (rL st x) fun src=>match src with
 | .inl l=>qL sz l/\bB (mf [s]) l/\bN l (fun M st=>gj s (fun y st=>y.fN=sz/\cn y.bU fun m=>(m+M.length)*bytes<=140737488355328/\K (st.push (.o (y.c6 M)))) st) st
 | .inr M=>(∀e∈M,e.bQ=true)/\sz=1/\x.refs (mf [s])/\gj s (fun y st=>y.fN=sz/\cn y.bU fun m=>(m+M.length)*bytes<=140737488355328/\K (st.push (.o (y.c6 M)))) st
def eY:List D->List D->(List D->St->Prop)->St->Prop
 | done,[],K,st=>K done st
 | done,.sub k p::r,K,st=>bB (lr k p) (done++r)/\dH k p (fun x st=>eY (done++[aM x]) r K st) st
 | done,x::r,K,st=>x.pc=true/\eY (done++[x]) r K st
def oA(n:Nat)(x:D)(K:St->Prop)(st:St):Prop :=
 match x.cellsOf with
 | none=>False
 | some l=>(l.length=n/\0<n)/\eY [] l (fun l' st=>K (st.push (.box l'))) st
def oy(z x:D)(K:St->Prop)(st:St):Prop :=
 match x.cellsOf with
 | none=>False
 | some l=>l.length=z.cells.length/\bN l (fun l' st=>K (st.push (.o (.slice z [.agg l'])))) st
def oD(d s:D)[K:KH](st:St):Prop :=
 match d with
 | .sub k (q::p)=>∃M,kW st s=some M/\(∀e∈M,e.bQ=true)/\bN [.sub k (q::p)] (fun l st=>∃z L,l=[.slice z L]/\(z.cells.length=1/\∀e∈L,e.bQ=true) /\
   eD [.sub k (q::p)] [.slice z (M.take L.length++L.drop M.length)] (fun st=>K.k (st.push (.int .i64 (min M.length L.length:Nat)))) st) st
 | _=>False
def nr(kk:Nat)(m k v:D)[K:KH](st:St):Prop :=
 k.jd kk=true/\v.bQ=true/\match m with
 | .sub j []=>cn ((st.cont j).o?.bind D.jf) fun e=>cn (eQ k e.1) fun r=>e.1.length<maxLen/\K.k ((st.put j (.o (.mp (cm k v e.1 e.2 r).1 (cm k v e.1 e.2 r).2))).push .dead)
 | .sub j (s::p)=>bN [.sub j (s::p)] (fun l st=>cn ((l.head?).bind D.jf) fun e=>cn (eQ k e.1) fun r=>e.1.length<maxLen /\
   eD [.sub j (s::p)] [.mp (cm k v e.1 e.2 r).1 (cm k v e.1 e.2 r).2] (fun st=>K.k (st.push .dead)) st) st
 | _=>False
def iH(s:List UInt8)(p:Nat):Nat×Nat:=Utf8.decode ⟨s.toArray⟩ p
def D.qw:D->Option (List UInt8×Nat)
 | .o (.bG s p)=>some (s,p)
 | _=>none
def nz(j:Nat)[K:KH](st:St):Prop :=
 cn (st.cont j).qw fun e=>(e.2<e.1.length->K.k ((st.put j (.o (.bG e.1 (e.2+(iH e.1 e.2).2)))).push (.af [.bool true,.int .i64 e.2,.int .i32 (iH e.1 e.2).1]))) /\
  (e.1.length<=e.2->K.k (st.push (.af [.bool false])))
def qn(kb:Nat):Nat->List D->Prop
 | _,[]=>True
 | j,d::r=>d.refs (bZ kb)/\(bX j d).core.refs (bZ kb)/\qn kb (j+1) r
def uI(sz bytes b s:Nat)(K:St->Prop)(st:St):Prop :=
 sz=1/\cn (st.cont (1000+s)).row? fun l=>gZ l=true/\cn (st.cont (1000+b)).o? fun y=>y.fN=1/\cn y.bU fun m=>(m+l.length)*bytes<=140737488355328 /\
  qn (1000+b) 0 st.env/\bB (bZ (1000+b)) st.tmp/\K ((st.put (1000+b) .dead).push (.o (y.c6 l)))
def aY[Mode](P:Program)(k:Kp)(g:Option Bool)(K:St->Prop)(st:St):Prop :=
 match k with
 | .bW j x=>g=none/\(st.rd x).gate=true/\lu j (st.rd x).core K st
 | .iP j x=>g=none/\(st.rd x).gate=true/\ou j (st.rd x).core K st
 | .call f xs=>@jA _ P f (gr st.cont st.rd xs) (de st.rd xs) (jk st.rd xs) g ⟨K⟩ st
 | .fM f xs=>g=none/\de st.rd xs=true/\@Bu _ P f (dV st.rd xs) ⟨K⟩ st
 | .st a x=>g=none/\((st.rd a).gate&&(st.rd x).gate)=true/\jo 1 (st.rd a).core (st.rd x).core K st
 | .eJ n a x=>g=none/\((st.rd a).gate&&(st.rd x).gate)=true/\jo n (st.rd a).core (st.rd x).core K st
 | .jX n a x=>g=none/\((st.rd a).gate&&(st.rd x).gate)=true/\mn n (st.rd a).core (st.rd x).core K st
 | .app sz bytes s x=>g=none/\((st.rd s).gate&&(st.rd x).gate)=true/\mJ sz bytes (st.rd s).core (st.rd x).core K st
 | .gK f (x::r)=>@ja _ P f (st.rd x).core (gr st.cont st.rd r) (de st.rd (x::r)) (jk st.rd r) g ⟨K⟩ st
 | .gK _ []=>False
 | .dyn x xs=>@im _ P (st.rd x).core (dV st.rd xs) (de st.rd (x::xs)) g ⟨K⟩ st
 | .j8 n x=>g=none/\(st.rd x).gate=true/\oA n (st.rd x).core K st
 | .bo x=>g=none/\(st.rd x).gate=true/\jz (st.rd x).core (fun c st=>K (st.push c)) st
 | .dJ sz bytes b s=>g=none/\uI sz bytes b s K st
 | .dM x y=>g=none/\((st.rd x).gate&&(st.rd y).gate)=true/\@oD (st.rd x).core (st.rd y).core ⟨K⟩ st
 | .kJ kk m k v=>g=none/\((st.rd m).gate&&(st.rd k).gate&&(st.rd v).gate)=true/\@nr kk (st.rd m).core (st.rd k).core (st.rd v).core ⟨K⟩ st
 | .kL j=>g=none/\@nz j ⟨K⟩ st
 | .eW x=>eF (bK (.eW x) st.rd) g K st
 | .fw x=>eF (bK (.fw x) st.rd) g K st
 | .box n x=>eF (bK (.box n x) st.rd) g K st
 | .fa n x=>eF (bK (.fa n x) st.rd) g K st
 | .eN zs=>eF (bK (.eN zs) st.rd) g K st
 | .ae z b l c=>eF (bK (.ae z b l c) st.rd) g K st
 | .cd z n ps=>eF (bK (.cd z n ps) st.rd) g K st
 | .fC=>eF (bK .fC st.rd) g K st
 | .j6 z x=>g=none/\(st.rd x).gate=true/\oy z (st.rd x).core K st
 | .iQ j x=>g=none/\(st.rd x).gate=true/\j0 j (st.rd x).core K st
 | k=>fW (bt k st.rd st.cont) g K st
def D.bool?:D->Option Bool
 | .bool b=>some b
 | _=>none
def gd(c:D)(want:Bool):Option Bool:=c.core.bool?.bind fun b=>some (c.gate&&(if want then b else !b))
def iX(v:Option Bool)(K:Bool->Prop):Prop :=
 match v with
 | some b=>K b
 | none=>False
def bR[Mode](P:Program)(K:St->Prop):List aW->St->Prop
 | [],st=>K st
 | ⟨none,k⟩::r,st=>aY P k none (bR P K r) st
 | ⟨some (j,want),k⟩::r,st=>iX (gd (st.rd (.t j)) want) fun b=>aY P k (some b) (bR P K r) st
structure Ex where
 ex:Nat->List D->Prop
 ret:List D->Prop
def il(v:D)(A B:Prop):Prop :=
 match v with
 | .bool b=>(b=true->A)/\(b=false->B)
 | _=>False
def cJ:List Nat->St->St
 | [],st=>st
 | j::r,st=>cJ r ((st.kill (aP j)).put j .dead)
def iT:List (Nat×Nat)->St->St
 | [],st=>st
 | (j,i)::r,st=>iT r ((((st.kill (aP j)).kill (aP (1000+i))).put j ((((st.kill (aP j)).kill (aP (1000+i)))).cont (1000+i))).put (1000+i) .dead)
def w7(i k:Nat)(x:Option D)(st:St):St :=
 match x with
 | some x=>(((st.kill (aP k)).put k .dead).kill (aP (1000+i))).put (1000+i) (aM x)
 | none=>st
def ji(i:Nat)(c:D)(st:St):St :=
 match c with
 | .sub k (s::p)=>if 1000<=k then(((st.kill (bx k (s::p))).put k (((st.kill (bx k (s::p))).cont k).hole (s::p))).kill (aP (1000+i))).put (1000+i) (aM ((st.cont k).aZ (s::p))) else st
 | .sub k []=>if 1000<=k then w7 i k (st.cont k).hZ st else st
 | _=>st
def gW:List (Nat×Nat)->St->St
 | [],st=>st
 | (_,i)::r,st=>gW r (ji i (st.cont (1000+i)) st)
def fin(post:List (Nat×Nat))(st:St):List D:=((iT post (gW post st)).kill eH).env
class LH where
 body:(List D->Prop)->Ex->List D->Prop
 E:Ex
def sG[h:LH](env:List D):Prop :=
 ∃(js:List Nat)(α:Type)(S:α->List D)(I:α->Prop)(μ:α->Nat)(x0:α),I x0/\(cJ js ⟨env,0,[]⟩).env=S x0/\∀x,I x->h.body (fun env'=>∃x',I x'/\μ x'<μ x/\(cJ js ⟨env',0,[]⟩).env=S x') h.E (S x)
def nW(env:List D):List (Nat×D)->List D
 | []=>env
 | (j,c)::r=>nW (ew env j c) r
theorem aI{body:(List D->Prop)->Ex->List D->Prop}{E:Ex}{env:List D}{α:Type}(js:List Nat)(f:α->List (Nat×D))(I:α->Prop)(μ:α->Nat)(x0:α){env0:List D}(h0:(cJ js ⟨env,0,[]⟩).env=env0)
  (hI:I x0) (he:env0=nW env0 (f x0)) (h:∀x,I x->body (fun env'=>∃x',I x'/\μ x'<μ x/\(cJ js ⟨env',0,[]⟩).env=nW env0 (f x')) E (nW env0 (f x))):@sG ⟨body,E⟩ env :=
 ⟨js,α,fun x=>nW env0 (f x),I,μ,x0,hI,by rw[h0];exact he,h⟩
theorem ak[Mode]{P:Program}{f:FuncId}{pl:Prop}{K:St->Prop}{st:St}{as:List Arg}{ds:List D}{res:D}(hR:al P f as res)(ha:as=ds.map .v)(hn:res.bd=true\/pl)(hK:K (st.push (aM res))):@jA _ P f (some ds) true pl none ⟨K⟩ st :=
 ⟨ds,res,_,rfl,⟨rfl,ha▸hR,hn⟩,.inl rfl,hK⟩
theorem UE[Mode]{P:Program}{f:FuncId}{pl:Prop}{K:St->Prop}{st:St}{as:List Arg}{ds:List D}{res:D}(hR:al P f as res)(ha:as=ds.map .v)(hn:res.bd=true\/pl)(hK:K (st.push (aM (.vw res)))):@jA _ P f (some ds) true pl none ⟨K⟩ st :=
 ⟨ds,res,_,rfl,⟨rfl,ha▸hR,hn⟩,.inr rfl,hK⟩
theorem bO[Mode]{P:Program}{f:FuncId}{gt:Bool}{pl:Prop}{K:St->Prop}{st:St}{as:List Arg}{ds:List D}{res:D}{b:Bool}(hR:b=true->al P f as res)(ha:as=ds.map .v)(hgt:b=true->gt=true)(hn:res.bd=true\/pl)(hK:K (st.push (.when b res))) :
  @jA _ P f (some ds) gt pl (some b) ⟨K⟩ st:=⟨ds,res,_,rfl,fun hb=>⟨hgt hb,ha▸hR hb,hn⟩,.inl rfl,hK⟩
theorem UD[Mode]{P:Program}{f:FuncId}{gt:Bool}{pl:Prop}{K:St->Prop}{st:St}{as:List Arg}{ds:List D}{res res':D}{b:Bool}(hR:b=true->al P f as res)(hv:res.vh=res')(ha:as=ds.map .v)(hgt:b=true->gt=true)(hn:res.bd=true\/pl)(hK:K (st.push (.when b res'))) :
  @jA _ P f (some ds) gt pl (some b) ⟨K⟩ st:=⟨ds,res,_,rfl,fun hb=>⟨hgt hb,ha▸hR hb,hn⟩,.inr rfl,hv▸hK⟩
theorem UY[Mode]{P:Program}{f:FuncId}{pl:Prop}{K:St->Prop}{st:St}{as:List Arg}{ds l l':List D}{res:D}{k:Nat}(hR:al P f as res)(ha:as=.io (.box l) (.box l')::ds.map .v)(hpl:pl)(hc:st.cont k=.box l)
  (hl:bB db l/\bB db l'/\l'.length=l.length) (hK:K (((st.kill (ba k [(0,0)])).put k (.box l')).push (aM res))):@ja _ P f (.ay k [(0,0)]) (some ds) true pl none ⟨K⟩ st :=
 ⟨rfl,rfl,hpl,ds,rfl,l,l',res,hc,hl.1,hl.2.1,hl.2.2,ha▸hR,hK⟩
theorem vK[Mode]{P:Program}{f:FuncId}{pl:Prop}{K:St->Prop}{st:St}{as:List Arg}{ds:List D}{x y res:D}{k:Nat}(hR:al P f as res)(ha:as=.io (.o x) (.o y)::ds.map .v)(hpl:pl)(hc:st.cont k=.o x)
  (hK:K (((st.kill (bx k [])).put k (.o y)).push (aM res))):@ja _ P f (.sub k []) (some ds) true pl none ⟨K⟩ st :=
 ⟨rfl,rfl,hpl,ds,rfl,x,y,res,hc,ha▸hR,hK⟩
theorem fc[Mode]{P:Program}{f:FuncId}{pl:Prop}{K:St->Prop}{st:St}{as:List Arg}{ds:List D}{res:D}{k:Nat}{s:Nat×Nat}{p:Path}(hR:al P f as res)(hpl:pl)
  (h:bN [.sub k (s::p)] (fun l st=>∃x y,l=[x]/\as=.io (.o x) (.o y)::ds.map .v/\eD [.sub k (s::p)] [y] (fun st=>K (st.push (aM res))) st) st):@ja _ P f (.sub k (s::p)) (some ds) true pl none ⟨K⟩ st :=
 ⟨rfl,rfl,hpl,ds,rfl,p9 _ (fun _ _ ⟨x,y,h1,h2,h3⟩=>⟨x,y,res,h1,h2▸hR,h3⟩) h⟩
theorem Kz[Mode]{P:Program}{f:FuncId}{pl:Prop}{K:St->Prop}{st:St}{as:List Arg}{ds l:List D}{res:D}(hR:al P f as res)(hpl:pl)
  (h:bN l (fun xs st=>∃ys,as=.io (.o (.agg xs)) (.o (.agg ys))::ds.map .v/\eD l ys (fun st=>K (st.push (aM res))) st) st):@ja _ P f (.agg l) (some ds) true pl none ⟨K⟩ st :=
 ⟨rfl,rfl,hpl,ds,rfl,p9 _ (fun _ _ ⟨ys,h2,h3⟩=>⟨ys,res,h2▸hR,h3⟩) h⟩
def pY[Mode](P:Program):RT->(List D->Prop)->St->Prop
 | .leaf l post,K,st=>bR P (fun st=>K (fin post st)) l st
 | .two _ _ _ a b,K,st=>pY P a K st/\pY P b K st
def bC[Mode](P:Program):C->(List D->Prop)->Ex->List D->Prop
 | .skip,K,_,env=>K env
 | .ops pre l post,K,_,env=>bR P (fun st=>K (fin post st)) l (cJ pre ⟨env,0,[]⟩)
 | .ek pre l post x a b,K,E,env=>bR P (fun st=>(st.rd x).gate=true/\il (st.rd x).core (bC P a K E (fin post st)) (bC P b K E (fin post st))) l (cJ pre ⟨env,0,[]⟩)
 | .tc pre l post x a b c,K,E,env=>bR P (fun st=>(st.rd x).gate=true/\il (st.rd x).core (bC P a (bC P c K E) E (fin post st)) (bC P b (bC P c K E) E (fin post st))) l (cJ pre ⟨env,0,[]⟩)
 | .seq a b,K,E,env=>bC P a (bC P b K E) E env
 | .cond x a b,K,E,env=>il ((⟨env,0,[]⟩:St).rd x) (bC P a K E env) (bC P b K E env)
 | .block id c,K,E,env=>bC P c K ⟨fun i s=>if i=id then K s else E.ex i s,E.ret⟩ env
 | .loop c,_,E,env=>@sG ⟨bC P c,E⟩ env
 | .exit id,_,E,env=>E.ex id env
 | .ret,_,E,env=>E.ret env
 | .alt pre t,K,_,env=>pY P t K (cJ pre ⟨env,0,[]⟩)
theorem TQ[Mode]{P:Program}{K:St->Prop}{st:St}:bR P K (oL []) st=K st:=rfl
theorem TP[Mode]{P:Program}{K:St->Prop}{k:Kp}{r:List Kp}{st:St}:bR P K (oL (k::r)) st=aY P k none (bR P K (oL r)) st:=rfl
theorem TO[Mode]{P:Program}{K:List D->Prop}{E:Ex}{l:List Kp}{env:List D}:bC P (.u l) K E env=bR P (fun st=>K (fin [] st)) (oL l) (cJ [] ⟨env,0,[]⟩):=rfl
theorem Pm[Mode]{P:Program}{K:St->Prop}{i:Nat}{g:Option Bool}{st:St}:aY P (.m i) g K st=aY P (.mv (.v i)) g K st:=rfl
theorem Pn[Mode]{P:Program}{K:St->Prop}{i:Nat}{g:Option Bool}{st:St}:aY P (.n i) g K st=aY P (.mv (.t i)) g K st:=rfl
theorem Pk[Mode]{P:Program}{K:St->Prop}{j i:Nat}{g:Option Bool}{st:St}:aY P (.a j i) g K st=aY P (.bW j (.t i)) g K st:=rfl
end Go.D3
namespace Go.D3
open Go
def U{α:Type}(f:α->D)(d:α)(l:List α):D:=.slice (f d) (l.map f)
abbrev ints(l:List Int):D:=U (D.int .i64) 0 l
abbrev bytes(l:List Int):D:=U (D.int .u8) 0 l
abbrev j7(l:List Bool):D:=U D.bool false l
abbrev kY(l:List (List UInt8)):D:=U D.str [] l
abbrev aO(l:List (List Int)):D:=U ints [] l
abbrev rR(l:List (List Bool)):D:=U j7 [] l
abbrev tV(l:List (List (List UInt8))):D:=U kY [] l
abbrev nb(l:List (List (List Int))):D:=U aO [] l
abbrev CB(l:List (List (List (List Int)))):D:=U nb [] l
theorem getD_map'{α β:Type}(f:α->β)(d:α)(l:List α)(i:Nat):(l.map f).getD i (f d)=f (l.getD i d):=by
 rw[List.getD_eq_getElem?_getD,List.getD_eq_getElem?_getD,List.getElem?_map];cases l[i]?<;>rfl
section U
variable{α:Type}{f:α->D}{d:α}{l:List α}
theorem C3:(U f d l).bU=some l.length:=by simp[U,D.bU]
theorem C2{i:Nat}:(U f d l).ir i=(f (l.getD i d)).cells:=by simp only[U,D.ir,getD_map']
theorem LZ{lo:Option X}:mu (U f d l) lo=none:=rfl
theorem Lh:(U f d l).cells=[U f d l]:=rfl
theorem Li:(U f d l).cellsOf=some [U f d l]:=rfl
theorem Ll:(U f d l).core=U f d l:=by simp[U,D.core]
theorem Lq:(U f d l).gate=true:=rfl
theorem L2:(U f d l).un=U f d l:=rfl
theorem LK{k:Nat}:bX k (U f d l)=U f d l:=rfl
theorem Lp{k:Nat}{p:Path}:cQ k p (U f d l)=.sub k p:=rfl
theorem Lz{i o:Nat}:(U f d l).dv i o=(f (l.getD i d)).cells.getD o .dead:=by simp only[U,D.dv,getD_map']
theorem C5{i o:Nat}{y:D}:(U f d l).cT i o y=.slice (f d) ((l.map f).set i (dG (f (l.getD i d)) o y)):=by simp only[U,D.cT,getD_map']
theorem wb{i:Nat}{x:α}:D.slice (f d) ((l.map f).set i (f x))=U f d (l.set i x):=by simp[U,List.map_set]
theorem Lt{i o:Nat}:(U f d l).ee i o=(i<l.length/\o<(f d).cells.length):=by simp[U,D.ee]
theorem LG{i:Nat}{y:D}:(U f d l).gz i y=jg (f (l.getD i d)) y:=by simp only[U,D.gz,getD_map']
theorem Lf{M:List α}:(U f d l).c6 (M.map f)=U f d (l++M):=by simp[U,D.c6]
theorem kE{x:α}:(U f d l).c6 [f x]=U f d (l++[x]):=by simp[U,D.c6]
theorem Lg:(U f d l).c6 []=U f d l:=by simp[U,D.c6]
theorem Lo:(U f d l).fN=(f d).cells.length:=rfl
theorem Lv:(U f d l).isAgg=false:=rfl
theorem Lw:(U f d l).isObj=false:=rfl
theorem LI:(U f d l).b0=true:=rfl
theorem LQ:(U f d l).l7=true:=rfl
theorem LW:(U f d l).bQ=false:=rfl
theorem LA{q:D->Bool}:(U f d l).kill q=U f d l:=rfl
theorem LS{σ:Nat->Nat}:(U f d l).an σ=U f d l:=rfl
theorem L1:(U f d l).tight=false:=rfl
theorem LR{Q:D->Prop}:(U f d l).refs Q=True:=rfl
theorem Lj:aM (U f d l)=.o (U f d l):=rfl
theorem LV:(U f d l).fY=true:=rfl
theorem Le:(U f d l).om=false:=rfl
theorem LN:(U f d l).eo=some (.vw (U f d l)):=rfl
theorem LO:(U f d l).pq=some (.vw (U f d l)):=rfl
theorem Lk:aM (.vw (U f d l))=U f d l:=rfl
theorem LM{i:Nat}{st:St}:ji i (U f d l) st=st:=rfl
theorem Ld{K:D->St->Prop}{st:St}:av (U f d l) K st=K (.vw (U f d l)) st:=rfl
theorem U4:D.slice (f d) []=U f d []:=rfl
theorem U5{n:Nat}:D.slice (f d) (List.replicate n (f d))=U f d (List.replicate n d):=by simp[U]
theorem Lm{a b:Nat}:(U f d l).cut a b=some (U f d ((l.take b).drop a)):=by simp[U,D.cut,List.map_take,List.map_drop]
theorem LB{ob:Nat->D}:jK ob (U f d l)=some (True,.int .i64 l.length):=by simp[U,jK,D.bU,one]
theorem Lu{ob:Nat->D}{sz:Nat}{k:IntKind}{n:Int}:lL sz ob (U f d l) (.int k n)=some (0<=n/\n<l.length/\(f (l.getD n.toNat d)).cells.length=sz,.ptr (f (l.getD n.toNat d)).cells):=by
 have h:lL sz ob (U f d l) (.int k n)=(U f d l).bU.bind fun m=>some (0<=n/\n<m/\((U f d l).ir n.toNat).length=sz,.ptr ((U f d l).ir n.toNat)):=rfl
 rw[h,C3,C2];rfl
theorem LY{st:St}:kW st (U f d l)=some (l.map f):=rfl
theorem Ly:(U f d l).oX=true:=rfl
theorem LD:(U f d l).pd=((f d).oX || (f d).isAgg):=rfl
theorem LJ:(U f d l).fV=true:=rfl
theorem LC{st:St}:nu st (U f d l)=none:=rfl
theorem Lx{st:St}:isRow st (U f d l)=none:=rfl
theorem Ln:(U f d l).gL=some (l.map f):=rfl
theorem LU:(U f d l).row?=none:=rfl
theorem C4:(U f d l).pc=true:=by simp[U,D.pc]
theorem LP:(U f d l).eT=some (U f d l):=rfl
theorem LF(h:∀x,(f x).bd=true):(U f d l).bd=true:=by
 simp only[U,D.bd];induction l with
 | nil=>rfl
 | cons a l ih=>simp[dU,h,ih]
theorem Lr{ob:Nat->D}{n:Nat}:aU ob (n+1) (U f d l)=some (U f d l):=rfl
end U
theorem S2:D.slice (.int .i64 0) []=ints []:=rfl
theorem S1:D.slice (.int .u8 0) []=bytes []:=rfl
theorem SZ:D.slice (.bool false) []=j7 []:=rfl
theorem S6:D.slice (.str []) []=kY []:=rfl
theorem QC{n:Nat}:D.slice (.int .i64 0) (List.replicate n (.int .i64 0))=ints (List.replicate n 0):=by simp[ints,U]
theorem QB{n:Nat}:D.slice (.int .u8 0) (List.replicate n (.int .u8 0))=bytes (List.replicate n 0):=by simp[bytes,U]
theorem Qz{n:Nat}:D.slice (.bool false) (List.replicate n (.bool false))=j7 (List.replicate n false):=by simp[j7,U]
theorem QG{n:Nat}:D.slice (.str []) (List.replicate n (.str []))=kY (List.replicate n []):=by simp[kY,U]
theorem QD{n:Nat}:D.slice (ints []) (List.replicate n (ints []))=aO (List.replicate n []):=by simp[aO,U]
theorem QA{n:Nat}:D.slice (j7 []) (List.replicate n (j7 []))=rR (List.replicate n []):=by simp[rR,U]
theorem QH{n:Nat}:D.slice (kY []) (List.replicate n (kY []))=tV (List.replicate n []):=by simp[tV,U]
theorem QE{n:Nat}:D.slice (aO []) (List.replicate n (aO []))=nb (List.replicate n []):=by simp[nb,U]
theorem S3:D.slice (ints []) []=aO []:=rfl
theorem S0:D.slice (j7 []) []=rR []:=rfl
theorem S7:D.slice (kY []) []=tV []:=rfl
theorem S4:D.slice (aO []) []=nb []:=rfl
theorem S5:D.slice (nb []) []=CB []:=rfl
def mK{α β:Type}(f:α->D)(l:List (α×β)):List D:=l.map fun e=>f e.1
def mV{α β:Type}(g:β->D)(l:List (α×β)):List D:=l.map fun e=>g e.2
def bz{α β:Type}(f:α->D)(g:β->D)(l:List (α×β)):D:=.mp (mK f l) (mV g l)
section maps
variable{α β:Type}{f:α->D}{g:β->D}{l:List (α×β)}{a:α}{b:β}
def dE[BEq α](l:List (α×β))(a:α):Option Nat:=l.findIdx? fun e=>a == e.1
def iz[BEq α](l:List (α×β))(a:α)(z:β):β:=((l.find? fun e=>a == e.1).map (·.2)).getD z
def jL[BEq α](l:List (α×β))(a:α):Bool:=l.any fun e=>a == e.1
def fD[BEq α](l:List (α×β))(a:α)(b:β):List (α×β) :=
 match dE l a with
 | some i=>l.set i ((l.getD i (a,b)).1,b)
 | none=>l++[(a,b)]
theorem U8:D.mp [] []=bz f g []:=rfl
theorem My:D.mp (mK f l) (mV g l)=bz f g l:=rfl
theorem ME:(bz f g l).jf=some (mK f l,mV g l):=rfl
theorem MF:(bz f g l).pb=some (mK f l,mV g l):=rfl
theorem L4:(mK f l).length=l.length:=by simp[mK]
theorem MA:(bz f g l).isAgg=false:=rfl
theorem Mw:(bz f g l).core=bz f g l:=by simp[bz,D.core]
theorem Mz:(bz f g l).gate=true:=rfl
theorem Mx{k:Nat}{p:Path}:cQ k p (bz f g l)=.sub k p:=rfl
theorem MJ{k:Nat}:bX k (bz f g l)=bz f g l:=rfl
theorem Mt{k:Nat}{p:Path}:oB k p (bz f g l)=bz f g l:=rfl
theorem MQ:(bz f g l).un=bz f g l:=rfl
theorem Mr:(bz f g l).cells=[bz f g l]:=rfl
theorem Mq:(bz f g l).om=false:=rfl
theorem Ms:(bz f g l).cellsOf=some [bz f g l]:=rfl
theorem MB:(bz f g l).isObj=false:=rfl
theorem MI:(bz f g l).b0=true:=rfl
theorem MD{q:D->Bool}:(bz f g l).kill q=bz f g l:=rfl
theorem MN{σ:Nat->Nat}:(bz f g l).an σ=bz f g l:=rfl
theorem MM{Q:D->Prop}:(bz f g l).refs Q=True:=rfl
theorem Mu:aM (bz f g l)=.o (bz f g l):=rfl
theorem Mv:aM (.vw (bz f g l))=bz f g l:=rfl
theorem MK:(bz f g l).pc=true:=rfl
theorem ML:(bz f g l).eT=some (bz f g l):=rfl
theorem MH:(bz f g l).bd=true:=rfl
theorem MP:(bz f g l).tight=false:=rfl
theorem MC:(bz f g l).oX=false:=rfl
theorem MG:(bz f g l).pd=false:=rfl
theorem De[BEq α](h:∀a b,kx (f a) (f b)=some (a == b)):eQ (f a) (mK f l)=some (dE l a):=by
 unfold mK dE;induction l with
 | nil=>rfl
 | cons e r ih =>
  simp only[List.map_cons,eQ,h,Option.bind_some,ih,List.findIdx?_cons];cases a == e.1<;>rfl
theorem L6{l:List (List UInt8×β)}{a:List UInt8}:eQ (.str a) (mK D.str l)=some (dE l a):=De fun _ _=>rfl
theorem L5{k:IntKind}{l:List (Int×β)}{a:Int}:eQ (.int k a) (mK (D.int k) l)=some (dE l a):=De fun a b=>by simp[kx]
theorem sM[BEq α]:cm (f a) (g b) (mK f l) (mV g l) (dE l a)=(mK f (fD l a b),mV g (fD l a b)):=by
 unfold fD mK mV;cases h:dE l a with
 | none=>simp[cm]
 | some i =>
  have hi:i<l.length:=by
   unfold dE at h;rw[List.findIdx?_eq_some_iff_findIdx_eq] at h;exact h.1
  simp only[cm,List.map_set];congr 1;have:f (l.getD i (a,b)).1=(l.map fun e=>f e.1)[i]'(by simpa using hi):=by simp[List.getD_eq_getElem?_getD,hi]
  rw[this,List.set_getElem_self]
theorem Dk[BEq α]{z:β}:iC (g z) (mV g l) (dE l a)=g (iz l a z):=by
 unfold dE iz mV;induction l with
 | nil=>rfl
 | cons e r ih =>
  rw[List.findIdx?_cons,List.find?_cons];cases h:a == e.1 with
  | true=>simp[iC]
  | false =>
   simp only[Bool.false_eq_true,if_false] at ih|-
   rw[<-ih];cases r.findIdx? (fun e=>a == e.1)<;>simp[iC]
theorem L7[BEq α]:(dE l a).isSome=jL l a:=by
 unfold dE jL;rw[List.findIdx?_isSome]
theorem MY[BEq α]{k:IntKind}{l:List (α×Int)}{z:Int}:iC (.int k z) (mV (D.int k) l) (dE l a)=.int k (iz l a z):=Dk
theorem MX[BEq α]{l:List (α×Bool)}{z:Bool}:iC (.bool z) (mV D.bool l) (dE l a)=.bool (iz l a z):=Dk
theorem MU{k:IntKind}{l:List (List UInt8×Int)}{a:List UInt8}{b:Int}:cm (.str a) (.int k b) (mK D.str l) (mV (D.int k) l) (dE l a)=(mK D.str (fD l a b),mV (D.int k) (fD l a b)):=sM
theorem MT{l:List (List UInt8×Bool)}{a:List UInt8}{b:Bool}:cm (.str a) (.bool b) (mK D.str l) (mV D.bool l) (dE l a)=(mK D.str (fD l a b),mV D.bool (fD l a b)):=sM
theorem MS{j k:IntKind}{l:List (Int×Int)}{a b:Int}:cm (.int j a) (.int k b) (mK (D.int j) l) (mV (D.int k) l) (dE l a)=(mK (D.int j) (fD l a b),mV (D.int k) (fD l a b)):=sM
theorem MR{j:IntKind}{l:List (Int×Bool)}{a:Int}{b:Bool}:cm (.int j a) (.bool b) (mK (D.int j) l) (mV D.bool l) (dE l a)=(mK (D.int j) (fD l a b),mV D.bool (fD l a b)):=sM
end maps
abbrev Bp(s:List UInt8):List Int:=s.map fun b=>(b.toNat:Int)
def byteOf(n:Int):UInt8:=UInt8.ofNat n.toNat
theorem Jj{s:List UInt8}:uO s=bytes (Bp s):=by simp[uO,bytes,U,Bp,Function.comp_def]
theorem Bq:∀{l:List Int},bytesOf (l.map (D.int .u8))=some (l.map byteOf)
 | []=>rfl
 | a::r=>by simp only[List.map_cons,bytesOf,Bq (l:=r),Option.bind_some];rfl
theorem Jl{l:List Int}:(U (D.int .u8) 0 l).j9=some (l.map byteOf):=Bq
attribute [go_sem] My ME MF L4 MA Mw Mz Mx MJ Mt MQ Mr Ms MB MI MD MN MM Mu Mv MK ML MH MP MC MG
 L6 L5 L7 MY MX MU MT MS MR Jj Jl List.head?_cons
section
variable{P:Program}{K:St->Prop}{E:Ex}{st st':St}{env env':List D}
@[congr] theorem Vu[Mode]{c:C}{K:List D->Prop}(h:env=env'):bC P c K E env=bC P c K E env':=by rw[h]
@[congr] theorem Vv[Mode]{l:List aW}(h:st=st'):bR P K l st=bR P K l st':=by rw[h]
@[congr] theorem Vg[Mode]{k:Kp}{g g':Option Bool}(hg:g=g')(h:st=st'):aY P k g K st=aY P k g' K st':=by rw[h,hg]
@[congr] theorem Vl{r r':Option PR}{g g':Option Bool}(h:r=r')(hg:g=g'):fW r g K st=fW r' g' K st:=by rw[h,hg]
@[congr] theorem Va{r r':Option PR}{g g':Option Bool}(h:r=r')(hg:g=g'):eF r g K st=eF r' g' K st:=by rw[h,hg]
@[congr] theorem UT{v v':Option Bool}{K:Bool->Prop}(h:v=v'):iX v K=iX v' K:=by rw[h]
@[congr] theorem UH{v v':D}{A B:Prop}(h:v=v'):il v A B=il v' A B:=by rw[h]
@[congr] theorem Vh{α:Type}{v v':Option α}{K:α->Prop}(h:v=v'):cn v K=cn v' K:=by rw[h]
@[congr] theorem Uv{j:Nat}{x x':D}(h:x=x'):lu j x K st=lu j x' K st:=by rw[h]
@[congr] theorem Uw{j:Nat}{x x':D}(h:x=x'):j0 j x K st=j0 j x' K st:=by rw[h]
@[congr] theorem Uu{j:Nat}{x x':D}(h:x=x'):ou j x K st=ou j x' K st:=by rw[h]
@[congr] theorem Un{x x':D}{K:D->St->Prop}(h:x=x')(hs:st=st'):av x K st=av x' K st':=by rw[h,hs]
@[congr] theorem Uo{x x':List D}{K:List D->St->Prop}(h:x=x')(hs:st=st'):bN x K st=bN x' K st':=by rw[h,hs]
@[congr] theorem Vs{k:Nat}{p p':Path}{K:D->St->Prop}(h:p=p')(hs:st=st'):dH k p K st=dH k p' K st':=by rw[h,hs]
@[congr] theorem Uy{x x':D}{K:D->St->Prop}(h:x=x')(hs:st=st'):gj x K st=gj x' K st':=by rw[h,hs]
@[congr] theorem Vr{b b':Bool}{n k:Nat}{p:Path}{x x':D}(h:b=b')(hs:x=x'):pN b n k p x K st=pN b' n k p x' K st:=by rw[h,hs]
@[congr] theorem Vp{n:Nat}{a a' x x':D}(h:a=a')(hs:x=x'):mn n a x K st=mn n a' x' K st:=by rw[h,hs]
@[congr] theorem Vq{b b':Bool}{n k:Nat}{p:Path}{x x':D}(h:b=b')(hs:x=x'):kX b n k p x K st=kX b' n k p x' K st:=by rw[h,hs]
@[congr] theorem Vo{k:Nat}{p:Path}{x x':D}(hs:x=x'):n9 k p x K st=n9 k p x' K st:=by rw[hs]
@[congr] theorem Vn{n:Nat}{a a' x x':D}(h:a=a')(hs:x=x'):jo n a x K st=jo n a' x' K st:=by rw[h,hs]
@[congr] theorem Us{n m:Nat}{a a' x x':D}(h:a=a')(hs:x=x'):mJ n m a x K st=mJ n m a' x' K st:=by rw[h,hs]
@[congr] theorem UC[Mode]{f:FuncId}{ds ds':Option (List D)}{gt gt':Bool}{pl pl':Prop}{g g':Option Bool}{K:KH}(h1:ds=ds')(h2:gt=gt')(h3:pl=pl')(h:g=g')(hs:st=st'):jA P f ds gt pl g st=jA P f ds' gt' pl' g' st':=by rw[h1,h2,h3,h,hs]
@[congr] theorem UX[Mode]{f:FuncId}{d d':D}{ds ds':Option (List D)}{gt gt':Bool}{pl pl':Prop}{g g':Option Bool}{K:KH}(h0:d=d')(h1:ds=ds')(h2:gt=gt')(h3:pl=pl')(h:g=g')(hs:st=st'):ja P f d ds gt pl g st=ja P f d' ds' gt' pl' g' st':=by rw[h0,h1,h2,h3,h,hs]
@[congr] theorem UQ{l l' ys ys':List D}{K:St->Prop}(h0:l=l')(h1:ys=ys')(hs:st=st'):eD l ys K st=eD l' ys' K st':=by rw[h0,h1,hs]
@[congr] theorem UO{x x' y y':D}{r r':List D}{K:St->Prop}(h0:x=x')(h1:y=y')(h2:r=r')(hs:st=st'):oM x r y K st=oM x' r' y' K st':=by rw[h0,h1,h2,hs]
@[congr] theorem UR[Mode]{f:FuncId}{ds ds':List D}{gt gt':Bool}{g g':Bool}{K:KH}(h1:ds=ds')(h2:gt=gt')(h:g=g')(hs:st=st'):jE P f ds gt g st=jE P f ds' gt' g' st':=by rw[h1,h2,h,hs]
@[congr] theorem UK[Mode]{x x':D}{ds ds':List D}{gt gt':Bool}{g g':Bool}{K:KH}(h0:x=x')(h1:ds=ds')(h2:gt=gt')(h:g=g')(hs:st=st'):jC P x ds gt g st=jC P x' ds' gt' g' st':=by rw[h0,h1,h2,h,hs]
@[congr] theorem UA{x x':D}{K:D->St->Prop}(h:x=x')(hs:st=st'):jz x K st=jz x' K st':=by rw[h,hs]
@[congr] theorem Vt{d d' l l':List D}{K:List D->St->Prop}(h:d=d')(h':l=l')(hs:st=st'):eY d l K st=eY d' l' K st':=by rw[h,h',hs]
@[congr] theorem UB{n:Nat}{x x':D}(h:x=x')(hs:st=st'):oA n x K st=oA n x' K st':=by rw[h,hs]
@[congr] theorem Uz{z x x':D}(h:x=x')(hs:st=st'):oy z x K st=oy z x' K st':=by rw[h,hs]
@[congr] theorem UI{x x' y y':D}{K:KH}(h:x=x')(h':y=y')(hs:st=st'):oD x y st=oD x' y' st':=by rw[h,h',hs]
@[congr] theorem U9{kk:Nat}{x x' y y' z z':D}{K:KH}(h:x=x')(h':y=y')(h2:z=z')(hs:st=st'):nr kk x y z st=nr kk x' y' z' st':=by rw[h,h',h2,hs]
@[congr] theorem Vf{j:Nat}{K:KH}(hs:st=st'):nz j st=nz j st':=by rw[hs]
@[congr] theorem UL[Mode]{x x':D}{ds ds':List D}{gt gt':Bool}{g g':Option Bool}{K:KH}(h0:x=x')(h1:ds=ds')(h2:gt=gt')(h:g=g')(hs:st=st'):im P x ds gt g st=im P x' ds' gt' g' st':=by rw[h0,h1,h2,h,hs]
@[congr] theorem U3{h:LH}(he:env=env'):sG env=sG env':=by rw[he]
end
attribute [go_sem] bC.eq_1 bC.eq_2 bC.eq_3 bC.eq_4 bC.eq_5 bC.eq_6 bC.eq_7 bC.eq_8 bC.eq_9 bC.eq_10 bC.eq_11 bR.eq_1 bR.eq_2 bR.eq_3 aY.eq_1 aY.eq_2 aY.eq_3 aY.eq_4 aY.eq_5 aY.eq_6 aY.eq_7
  aY.eq_8 aY.eq_9 aY.eq_10 aY.eq_11 aY.eq_12 aY.eq_13 aY.eq_14 aY.eq_15 aY.eq_16 aY.eq_17 aY.eq_18 aY.eq_19 aY.eq_20 aY.eq_21 aY.eq_22 aY.eq_23 aY.eq_24 aY.eq_25 aY.eq_26 aY.eq_27 aY.eq_28
  fW.eq_1 fW.eq_2 eF.eq_1 eF.eq_2 bK.eq_1 bK.eq_2 bK.eq_3 bK.eq_4 bK.eq_5 bK.eq_6 bK.eq_7 bK.eq_8 bK.eq_9 jR.eq_1 jR.eq_2 oe.eq_1 oe.eq_2 lu.eq_1 ou.eq_1 j0.eq_1 j0.eq_2 ib.eq_1
  ib.eq_2 ib.eq_3 kB.eq_1 kB.eq_2 kB.eq_3 D.qv.eq_1 D.qv.eq_2 D.b0.eq_1 D.b0.eq_2 D.b0.eq_3 D.b0.eq_4 D.b0.eq_5 qL.eq_1 qL.eq_2 D.l7.eq_1 D.l7.eq_2 D.l7.eq_3 D.l7.eq_4 D.l7.eq_5
  D.l7.eq_6 av.eq_1 av.eq_2 av.eq_3 av.eq_4 av.eq_5 av.eq_6 av.eq_7 av.eq_8 av.eq_9 av.eq_10 av.eq_11 av.eq_12 av.eq_13 av.eq_14 av.eq_15 bN.eq_1 bN.eq_2 dH.eq_1 dH.eq_2 gj.eq_1
  gj.eq_2 gj.eq_3 jo.eq_1 jo.eq_2 kX.eq_1 kX.eq_2 n9.eq_1 D.om.eq_1 D.om.eq_2 Le Mq mJ.eq_1 aM.eq_1 aM.eq_2 aM.eq_3 aM.eq_4 aM.eq_5 aM.eq_6 aM.eq_7 aM.eq_8 aM.eq_9 aM.eq_10 aM.eq_11 aM.eq_12 aM.eq_13 aM.eq_14
  aM.eq_15 aM.eq_16 aM.eq_17 bt.eq_1 bt.eq_2 bt.eq_3 bt.eq_4 bt.eq_5 bt.eq_6 bt.eq_7 bt.eq_8 bt.eq_9 bt.eq_10 bt.eq_11 bt.eq_12 bt.eq_13 bt.eq_14 bt.eq_15 bt.eq_16 bt.eq_17 bt.eq_18 bt.eq_19
  bt.eq_20 bt.eq_21 bt.eq_22 bt.eq_23 bt.eq_24 bt.eq_25 bt.eq_26 bt.eq_27 bt.eq_28 bt.eq_29 g1.eq_1 g1.eq_2 g2.eq_1 g2.eq_2 one.eq_1 St.rd.eq_1 St.rd.eq_2 St.rd.eq_3 St.rd.eq_4 St.rd.eq_5 St.cont.eq_1 St.put.eq_1
  St.push.eq_1 St.kill.eq_1 bX.eq_1 bX.eq_2 bX.eq_3 bX.eq_4 cQ.eq_1 cQ.eq_2 cQ.eq_3 cQ.eq_4 cQ.eq_5 cQ.eq_6 cQ.eq_7 cQ.eq_8 cQ.eq_9 cQ.eq_10 cQ.eq_11 cQ.eq_12 cQ.eq_13 cQ.eq_14 cQ.eq_15 iU.eq_1
  iU.eq_2 nth.eq_1 nth.eq_2 nth.eq_3 ew.eq_1 ew.eq_2 ew.eq_3 dC.eq_1 dC.eq_2 D.kill.eq_1 D.kill.eq_2 D.kill.eq_3 D.kill.eq_4 D.kill.eq_5 D.kill.eq_6 D.kill.eq_7 D.kill.eq_8 D.kill.eq_9 D.kill.eq_10 D.core.eq_1
  D.core.eq_2 D.gate.eq_1 D.gate.eq_2 qe.eq_1 qe.eq_2 qe.eq_3 rP.eq_1 rP.eq_2 tM.eq_1 tM.eq_2 sK.eq_1 sK.eq_2 kI.eq_1 kI.eq_2 fy.eq_1 fy.eq_2 fy.eq_3 fy.eq_4 fy.eq_5 fy.eq_6 fy.eq_7
  fy.eq_8 fy.eq_9 fy.eq_10 fy.eq_11 fy.eq_12 fy.eq_13 jr.eq_1 jr.eq_2 jr.eq_3 jr.eq_4 jr.eq_5 jr.eq_6 jr.eq_7 jr.eq_8 oz.eq_1 oz.eq_2 oz.eq_3 jK.eq_1
  jK.eq_2 sD.eq_1 sD.eq_2 lL.eq_1 lL.eq_2 lL.eq_3 lO.eq_1 lO.eq_2 lO.eq_3 lP.eq_1 lP.eq_2 lP.eq_3 lE.eq_1 lE.eq_2 lE.eq_3 sd.eq_1 sd.eq_2 sf.eq_1 sf.eq_2 sR.eq_1 sR.eq_2 rW.eq_1
  rW.eq_2 ti.eq_1 ti.eq_2 lY.eq_1 lY.eq_2 uN.eq_1 uL.eq_1 wg.eq_1 qf.eq_1 qf.eq_2 qf.eq_3 lF.eq_1 lF.eq_2 lG.eq_1 lG.eq_2 setCells.eq_1 setCells.eq_2 D.cellsOf.eq_1 D.cellsOf.eq_2
  D.cellsOf.eq_3 D.cellsOf.eq_4 D.cellsOf.eq_5 D.cellsOf.eq_6 D.cellsOf.eq_7 D.cellsOf.eq_8 D.cellsOf.eq_9 dD.eq_1 dD.eq_2 D.px.eq_1 D.px.eq_2 aU.eq_1 aU.eq_2 aU.eq_3 aU.eq_4 aU.eq_5 aU.eq_6 aU.eq_7 aU.eq_8 aU.eq_9 aU.eq_10
  aU.eq_11 aU.eq_12 aU.eq_13 aU.eq_14 gr.eq_1 gr.eq_2 de.eq_1 de.eq_2 il.eq_1 il.eq_2 cJ.eq_1 cJ.eq_2 iT.eq_1 iT.eq_2 ji.eq_1 ji.eq_2 ji.eq_3 w7.eq_1 w7.eq_2 gW.eq_1 gW.eq_2
  fin.eq_1 iX.eq_1 iX.eq_2 gd.eq_1 cn.eq_1 cn.eq_2 isRow.eq_1 isRow.eq_2 nu.eq_1 nu.eq_2 nu.eq_3 D.wm.eq_1 D.wm.eq_2 D.pd.eq_1 D.pd.eq_2 D.oX.eq_1 D.oX.eq_2 D.fV.eq_1 D.fV.eq_2 D.fV.eq_3
  D.fV.eq_4 D.fV.eq_5 D.fV.eq_6 D.fV.eq_7 D.fV.eq_8 D.fV.eq_9 D.fV.eq_10 D.fV.eq_11 nC.eq_1 nC.eq_2 D.wj.eq_1 kW.eq_1 kW.eq_2 rL.eq_1 D.row?.eq_1 D.row?.eq_2 D.gL.eq_1 D.gL.eq_2 D.gL.eq_3
  D.o?.eq_1 D.o?.eq_2 D.fY.eq_1 D.fY.eq_2 D.fY.eq_3 D.fY.eq_4 D.fY.eq_5 D.fY.eq_6 D.fY.eq_7 D.fY.eq_8 D.fY.eq_9 D.fY.eq_10 nR.eq_1 nR.eq_2 D.qi.eq_1 D.qi.eq_2 mn.eq_1 mn.eq_2 pN.eq_1 pN.eq_2 nj.eq_1 nj.eq_2 nj.eq_3 D.hZ.eq_1 D.hZ.eq_2
  D.hZ.eq_3 D.hZ.eq_4 D.rn.eq_1 D.rn.eq_2 D.eo.eq_1 D.eo.eq_2 D.eo.eq_3 D.eo.eq_4 D.eo.eq_5 D.eo.eq_6 D.eo.eq_7 D.eo.eq_8 D.pq.eq_1 D.pq.eq_2 D.int?.eq_1 D.int?.eq_2 D.mo.eq_1 D.mo.eq_2 D.bool?.eq_1 D.bool?.eq_2 D.qa.eq_1 D.qa.eq_2
  D.qa.eq_3 D.pc.eq_1 D.pc.eq_2 D.pc.eq_3 D.pc.eq_4 D.pc.eq_5 D.pc.eq_6 D.pc.eq_7 D.pc.eq_8 D.pc.eq_9 pQ.eq_1 pQ.eq_2 D.eT.eq_1 D.eT.eq_2 D.eT.eq_3 D.eT.eq_4 D.eT.eq_5 D.eT.eq_6 D.eT.eq_7
  D.eT.eq_8 D.eT.eq_9 D.eT.eq_10 D.eT.eq_11 D.eT.eq_12 D.eT.eq_13 nF.eq_1 nF.eq_2 ss.eq_1 ss.eq_2 sa.eq_1 sa.eq_2 lS.eq_1 lS.eq_2 lS.eq_3 lS.eq_4 r9.eq_1 r9.eq_2 gq.eq_1 gq.eq_2
  gq.eq_3 gq.eq_4 gq.eq_5 ym.eq_1 tQ.eq_1 mu.eq_1 mu.eq_2 jy.eq_1 jy.eq_2 lz.eq_1 lz.eq_2 bump.eq_1 bump.eq_2 bump.eq_3 looks.eq_1 looks.eq_2 qt.eq_1 qt.eq_2 nn.eq_1 oB.eq_1 oB.eq_2
  D.refs.eq_1 D.refs.eq_2 D.refs.eq_3 D.refs.eq_4 D.refs.eq_5 D.refs.eq_6 D.refs.eq_7 D.refs.eq_8 D.refs.eq_9 D.refs.eq_10 bB.eq_1 bB.eq_2 mf.eq_1 mf.eq_2 xW.eq_1 xW.eq_2 lr.eq_1 lr.eq_2 lr.eq_3
  apart.eq_1 apart.eq_2 apart.eq_3 bZ.eq_1 bZ.eq_2 bZ.eq_3 db.eq_1 jk.eq_1 jk.eq_2 aP.eq_1 aP.eq_2 aP.eq_3 bx.eq_1 bx.eq_2 bx.eq_3 ba.eq_1 ba.eq_2 ba.eq_3 fP.eq_1 fP.eq_2 fP.eq_3
  iW.eq_1 iW.eq_2 iW.eq_3 dR.eq_1 D.hole.eq_1 D.vu.eq_1 oM.eq_1 oM.eq_2 eD.eq_1 eD.eq_2 eD.eq_3 eH.eq_1 eH.eq_2 eH.eq_3 D.bU.eq_1 D.bU.eq_2 D.bU.eq_3 D.bU.eq_4 D.ir.eq_1 D.ir.eq_2 D.cells.eq_1
  D.cells.eq_2 lk.eq_1 D.isObj.eq_1 D.isObj.eq_2 D.isObj.eq_3 D.isObj.eq_4 D.gu.eq_1 D.gu.eq_2 D.aZ.eq_1 D.at.eq_1 D.at.eq_2 D.aR.eq_1 D.dv.eq_1 D.dv.eq_2 D.dv.eq_3 D.dv.eq_4 D.dv.eq_5 D.dv.eq_6 D.dv.eq_7
  D.un.eq_1 D.un.eq_2 a8.eq_1 a8.eq_2 D.aS.eq_1 D.aS.eq_2 D.aS.eq_3 D.aS.eq_4 D.aS.eq_5 D.aS.eq_6 D.has.eq_1 D.has.eq_2 D.jG.eq_1 D.ee.eq_1 D.ee.eq_2 D.ee.eq_3 D.ee.eq_4 D.ee.eq_5
  D.ee.eq_6 D.ee.eq_7 D.setAt.eq_1 D.setAt.eq_2 D.eu.eq_1 D.eu.eq_2 D.cT.eq_1 D.cT.eq_2 D.cT.eq_3 D.cT.eq_4 D.cT.eq_5 D.cT.eq_6 D.cT.eq_7 dG.eq_1 dG.eq_2 cY.eq_1
  cY.eq_2 kM.eq_1 kM.eq_2 eG.eq_1 eG.eq_2 eG.eq_3 eG.eq_4 dw.eq_1 dw.eq_2 dw.eq_3 D.gz.eq_1 D.gz.eq_2 D.gz.eq_3 jg.eq_1 D.isAgg.eq_1 D.isAgg.eq_2 D.bQ.eq_1 D.bQ.eq_2 D.bQ.eq_3
  D.bQ.eq_4 D.c6.eq_1 D.c6.eq_2 D.fN.eq_1 D.fN.eq_2 D.fN.eq_3 D.cut.eq_1 D.cut.eq_2 D.cut.eq_3 D.cut.eq_4 D.bd.eq_1 D.bd.eq_2 D.bd.eq_3 D.bd.eq_4 D.bd.eq_5 D.bd.eq_6 D.bd.eq_7 dU.eq_1 dU.eq_2
  im.eq_1 im.eq_2 im.eq_3 jC.eq_1 jC.eq_2 jz.eq_1 jz.eq_2 eY.eq_1 eY.eq_2 eY.eq_3 oA.eq_1 oy.eq_1 qn.eq_1 qn.eq_2 gZ.eq_1 gZ.eq_2 uI.eq_1 nr.eq_1 nr.eq_2 nr.eq_3
  nz.eq_1 D.qw.eq_1 D.qw.eq_2 pf.eq_1 pf.eq_2 pf.eq_3 bt.eq_30 bt.eq_31 qD.eq_1 qD.eq_2 we.eq_1 xN.eq_1 four.eq_1 four.eq_2 four.eq_3 four.eq_4 four.eq_5 xO.eq_1 xO.eq_2 u7.eq_1 kx.eq_1 kx.eq_2 kx.eq_3 kx.eq_4 eQ.eq_1 eQ.eq_2
  D.jf.eq_1 D.jf.eq_2 D.pb.eq_1 D.pb.eq_2 D.pb.eq_3 mapOf.eq_1 mapOf.eq_2 D.jd.eq_1 D.jd.eq_2 D.jd.eq_3 D.jd.eq_4 iC.eq_1 iC.eq_2 sI.eq_1 sC.eq_1 cm.eq_1 cm.eq_2 D.j9.eq_1 D.j9.eq_2 D.j9.eq_3
  D.j9.eq_4 oG.eq_1 oG.eq_2 dV.eq_1 dV.eq_2 D.an.eq_1 D.an.eq_2 D.an.eq_3 D.an.eq_4 D.an.eq_5 D.an.eq_6 D.an.eq_7 D.an.eq_8 D.an.eq_9 D.an.eq_10 cW.eq_1 cW.eq_2 iy.eq_1 iy.eq_2 iy.eq_3 ik.eq_1
  ik.eq_2 ik.eq_3 tI.eq_1 tI.eq_2 tH.eq_1 tH.eq_2 nJ.eq_1 nJ.eq_2 nJ.eq_3 qG.eq_1 qG.eq_2 eU.eq_1 eU.eq_2 iD.eq_1 iD.eq_2 iD.eq_3 D.tight.eq_1 D.tight.eq_2 D.tight.eq_3 D.tight.eq_4 D.tight.eq_5
  D.tight.eq_6 D.tight.eq_7 D.tight.eq_8 D.tight.eq_9 D.tight.eq_10 D.tight.eq_11 D.tight.eq_12 jY.eq_1 jY.eq_2 D.pR.eq_1 D.pR.eq_2 pT.eq_1 pT.eq_2 D.gb.eq_1 D.gb.eq_2 D.gb.eq_3 iL.eq_1
  iL.eq_2
 C3 C2 Option.elim_none Option.elim_some LZ Lh Li Ll Lq L2 LK Lp Lz C5 wb Lt LG Lf kE Lg Lo Lv Lw LW LI LQ LA LR LS L1 Lj LM Ld Lm Lr LB Lu LY Lx Ly LD LJ LC Ln LU C4 LP LV LN LO Lk
 S2 S1 SZ S6 S3 S0 S7 S4 S5 QC QB Qz QG QD QA QH QE
 Option.bind_some Option.map_some Option.bind_none Option.map_none Option.some.injEq if_true if_false true_and and_true Bool.true_and Bool.and_true Bool.and_self Bool.false_and Bool.and_false Bool.not_true Bool.not_false List.drop_zero List.drop_succ_cons List.take_succ_cons List.take_zero List.length_cons List.length_nil List.replicate_succ List.replicate_zero List.map_cons List.map_nil
 List.getD_cons_zero List.getD_cons_succ List.set_cons_zero List.set_cons_succ List.cons_append List.nil_append List.append_nil List.isEmpty_nil List.isEmpty_cons
 reduceCtorEq decide_true decide_false implies_true true_implies false_implies and_self ne_eq not_false_eq_true not_true_eq_false beq_iff_eq true_or or_true false_or or_false eq_self Bool.false_eq_true decide_eq_true_eq decide_eq_false_iff_not Nat.zero_add Nat.add_zero imp_self
end Go.D3
namespace Go.D3
open Go
def qK(k:IntKind)(n:Int):Bool:=decide (k.min<=n)&&decide (n<=k.max)
theorem nA{k:IntKind}{n:Int}(h:qK k n=true):k.has n:=by
 simp[qK] at h;exact h
def cU(P:Program)(t:TypeId)(n:Nat):Bool :=
 match P.info? t with
 | some i=>decide (i.size=n)
 | none=>false
def mM(P:Program)(t:TypeId)(n:Nat):Bool :=
 match P.info? t with
 | some i=>decide (i.bytes=n)
 | none=>false
def lq(P:Program)(t:TypeId):Bool:=match P.underlying t with
 | some (.struct _) | some (.array _ _)=>true
 | _=>false
def jB(P:Program)(t:TypeId):Bool:=match P.underlying t with
 | some (.struct _) | some (.array _ _) | none=>false
 | _=>true
def gD(P:Program)(t:TypeId):Option TypeId:=match P.underlying t with
 | some (.slice e)=>some e
 | _=>none
def gM(P:Program)(t:TypeId)(f:Nat):Option (Nat×TypeId):=match P.underlying t with
 | some (.struct fs)=>(fs[f]?).map fun x=>(x.offset,x.type)
 | _=>none
theorem kq{n:Nat}(h:n<=maxLen):IntKind.i64.has (n:Int):=by
 simp only[maxLen] at h;constructor
 ·simp[IntKind.min,IntKind.signed,IntKind.bits]<;>omega
 ·simp[IntKind.max,IntKind.signed,IntKind.bits]<;>omega
theorem ui(k:IntKind)(n:Int):k.has (k.wrap n):=by
 have hs:∀(bits:Nat),True:=fun _=>trivial
 cases k<;>simp only[IntKind.has,IntKind.min,IntKind.max,IntKind.wrap,IntKind.signed,IntKind.bits]<;>simp<;>(first | omega | (split<;>omega))
def Yd(P:Program)(o:Oper)(a:Act)(w:World)(v:Value):Prop:=(execOp a.eval o).run P w=.ok (.value v) w
section
variable{P:Program}{o:Oper}{w:World}{a:Act}
theorem uk{x:Operand}(ho:o.op=.move x\/o.op=.assign x):Yd P o a w (a.eval x):=by
 rcases ho with ho | ho<;>simp[Yd,execOp,ho]
theorem Ky{op:BinOp}{k:IntKind}{m n:Int}(hm:k.has m){side:Prop}{d:D}(hb:fy op k m n=some (side,d))(hs:side):∃v,Rd w (fun _=>False) v d /\
  (∀{t u:TypeId}{x y:Operand},o.op=.binOp op t x y u->a.eval x=.int k m->a.eval y=.int k n->Yd P o a w v):=by
 have hg:∀t x y w,(eqGuard op t x y (.int k m) (.int k n)).run P w=.ok () w:=by
  intro t x y w;unfold eqGuard;cases op<;>rfl
 have hq:∀(d:Int),(¬n=0)->(Op.intDiv .quo k m n).run P w=.ok (.int k (k.wrap (m.tdiv n))) w/\(Op.intDiv .rem k m n).run P w=.ok (.int k (m.tmod n)) w:=by
  intro _ h0;constructor<;>simp[Op.intDiv,h0]
 cases op<;>simp only[fy,Option.some.injEq,Prod.mk.injEq,reduceCtorEq] at hb
 case quo =>
  obtain⟨h1,rfl⟩:=hb;rw[<-h1] at hs;refine⟨.int k (k.wrap (m.tdiv n)),Rd.int (ui _ _),fun ho hx hy=>?_⟩;simp[Yd,execOp,ho,hx,hy,hg,binOp,(hq 0 hs).1]
 case rem =>
  obtain⟨h1,rfl⟩:=hb;rw[<-h1] at hs;refine⟨.int k (m.tmod n),Rd.int ?_,fun ho hx hy=>by simp[Yd,execOp,ho,hx,hy,hg,binOp,(hq 0 hs).2]⟩
  have h3:(m.tmod n).natAbs<=m.natAbs:=by
   rw[Int.natAbs_tmod];exact Nat.mod_le _ _
  obtain⟨h4,h5⟩:=hm;have h8:k.min<=0/\0<=k.max:=by cases k<;>simp[IntKind.min,IntKind.max,IntKind.signed,IntKind.bits]
  rcases Int.le_total 0 m with h6 | h6
  ·have h7:=Int.tmod_nonneg n h6
   constructor<;>omega
  ·have h7:m.tmod n<=0:=by
    have:=Int.tmod_nonneg n (show 0<=-m by omega);rw[Int.neg_tmod] at this;omega
   constructor<;>omega
 case and =>
  obtain⟨-,rfl⟩:=hb;refine⟨_,Rd.int (ui _ _),fun ho hx hy=>?_⟩;simp only[Yd,execOp,ho,hx,hy,binOp,ne_eq,not_true_eq_false,if_false];rfl
 all_goals
  obtain⟨-,rfl⟩:=hb
  first
  | exact⟨_,Rd.int (ui _ _),fun ho hx hy=>by simp[Yd,execOp,ho,hx,hy,hg,binOp,Op.intArith]⟩
  | exact⟨_,Rd.bool,fun ho hx hy=>by simp[Yd,execOp,ho,hx,hy,hg,binOp,Op.intCmp]⟩
theorem SO{k:IntKind}{m:Int}(hm:k.has m)(n:Nat):k.has (m.fdiv (2 ^ n)):=by
 have hp:(0:Int)<2 ^ n:=Int.pow_pos (by decide);rw[Int.fdiv_eq_ediv_of_nonneg _ (Int.le_of_lt hp)];obtain⟨h1,h2⟩:=hm;have h0:k.min<=0/\0<=k.max:=by cases k<;>simp[IntKind.min,IntKind.max,IntKind.signed,IntKind.bits]
 constructor
 ·refine(Int.le_ediv_iff_mul_le hp).2 ?_
  have:=Int.mul_le_mul_of_nonpos_left h0.1 (show(1:Int)<=2 ^ n by omega);omega
 ·rcases Int.le_total 0 m with h | h
  ·have:=Int.ediv_le_self (2 ^ n) h
   omega
  ·have:=(Int.ediv_lt_iff_lt_mul hp (a:=m) (b:=1)).2 (by omega)
   omega
theorem Ug{k k':IntKind}{m n:Int}{t u:TypeId}{x y:Operand}(ho:o.op=.binOp .shr t x y u)(hx:a.eval x=.int k m)(hy:a.eval y=.int k' n)(h0 : 0<=n)(h1:n<=k.bits):Yd P o a w (.int k (m.fdiv (2 ^ n.toNat))):=by
 have h2:¬n<0:=by omega
 have h3:min n.toNat k.bits=n.toNat:=by omega
 simp[Yd,execOp,ho,hx,hy,eqGuard,binOp,Op.shift,h2,h3]
theorem Tl{op:BinOp}{m n:List UInt8}{side:Prop}{d:D}(hb:jr op m n=some (side,d))(hs:side):∃v,Rd w (fun _=>False) v d /\
  (∀{t u:TypeId}{x y:Operand},o.op=.binOp op t x y u->a.eval x=.string ⟨m.toArray⟩->a.eval y=.string ⟨n.toArray⟩->Yd P o a w v):=by
 have hg:∀t x y w,(eqGuard op t x y (.string ⟨m.toArray⟩) (.string ⟨n.toArray⟩)).run P w=.ok () w:=by
  intro t x y w;unfold eqGuard;cases op<;>rfl
 have hl:∀l:List UInt8,(⟨l.toArray⟩:ByteArray).toList=l:=fun l=>by rw[ByteArray.toList_eq]
 cases op<;>simp only[jr,Option.some.injEq,Prod.mk.injEq,reduceCtorEq] at hb
 case add =>
  obtain⟨h1,rfl⟩:=hb;rw[<-h1] at hs;refine⟨.string ⟨(m++n).toArray⟩,Rd.str (by simpa using hs),fun ho hx hy=>?_⟩
  have h2:(m.length:Int)+n.length<=9223372036854775807:=by
   simp only[maxLen] at hs;omega
  have h3:(⟨m.toArray⟩++⟨n.toArray⟩:ByteArray)=⟨(m++n).toArray⟩:=by
   apply ByteArray.ext;simp
  have h4:(⟨m.toArray⟩:ByteArray).size=m.length:=rfl;have h5:(⟨n.toArray⟩:ByteArray).size=n.length:=rfl;simp[Yd,execOp,ho,hx,hy,hg,binOp,Op.stringOp,h2,h3,h4,h5]
 all_goals
  obtain⟨-,rfl⟩:=hb;exact⟨_,Rd.bool,fun ho hx hy=>by simp[Yd,execOp,ho,hx,hy,hg,binOp,Op.stringOp,hl]⟩
theorem Jh{op:BinOp}{m n:Bool}{side:Prop}{d:D}(hb:oz op m n=some (side,d)):∃v,Rd w (fun _=>False) v d /\
  (∀{t u:TypeId}{x y:Operand},o.op=.binOp op t x y u->a.eval x=.bool m->a.eval y=.bool n->P.underlying t=some .bool->Yd P o a w v):=by
 have hg:∀t x y w,(eqGuard op t x y (.bool m) (.bool n)).run P w=.ok () w:=by
  intro t x y w;unfold eqGuard;cases op<;>rfl
 cases op<;>simp only[oz,Option.some.injEq,Prod.mk.injEq,reduceCtorEq] at hb
 all_goals
  obtain⟨-,rfl⟩:=hb;exact⟨_,Rd.bool,fun ho hx hy ht=>by simp[Yd,execOp,ho,hx,hy,hg,binOp,Op.equal,Op.maxDepth,run_equalIn_bool' (P:=P) _ _ _ _ _ ht]⟩
theorem Uf{c x y:Operand}(ho:o.op=.pick c x y){cb p q:Bool}(hc:a.eval c=.bool cb)(hx:cb=true->a.eval x=.bool p)(hy:cb=false->a.eval y=.bool q) :
  Yd P o a w (.bool (lY cb p q)):=by
 cases cb
 ·simp[Yd,execOp,ho,hc,hy,asBool,lY]
 ·simp[Yd,execOp,ho,hc,hx,asBool,lY]
theorem Ue{x:Operand}{t:TypeId}(ho:o.op=.unOp .not t x){b:Bool}(hx:a.eval x=.bool b):Yd P o a w (.bool (!b)):=by
 simp[Yd,execOp,ho,hx,Op.unary]
theorem lh{k:IntKind}{n:Int}(h:k.has n):k.wrap n=n:=by
 obtain⟨h1,h2⟩:=h;cases k<;>simp[IntKind.min,IntKind.max,IntKind.wrap,IntKind.signed,IntKind.bits] at *<;>(first | omega | (split<;>omega))
theorem T2{s d:TypeId}{x:Operand}(ho:o.op=.convert s d x){k0 k1 k:IntKind}(h1:P.underlying s=some (.int k1))(h2:P.underlying d=some (.int k)){n:Int}(hx:a.eval x=.int k0 n)(hn:k0.has n) :
  Yd P o a w (.int k (if k0=k then n else k.wrap n))/\k.has (if k0=k then n else k.wrap n):=by
 have:Yd P o a w (.int k (k.wrap n)):=by simp[Yd,execOp,ho,hx,convert,run_underlying h1,run_underlying h2,Conv.intToInt]
 by_cases hk:k0=k
 ·subst hk;simp only[if_true];rw[lh hn] at this;exact⟨this,hn⟩
 ·simp only[hk,if_false];exact⟨this,ui _ _⟩
def sJ:Bool->Builtin
 | true=>.max
 | false=>.min
theorem Ud{mx:Bool}{k:IntKind}{m n:Int}{ts:Array TypeId}{x y:Operand}(ho:o.op=.call { callee:=.builtin (sJ mx),args:=#[x,y],argTypes:=ts })(hx:a.eval x=.int k m)(hy:a.eval y=.int k n):Yd P o a w (.int k (kI mx m n)):=by
 cases mx
 ·simp only[sJ] at ho
  have e:(if n<m then n else m)=min m n:=by split<;>omega
  simp[Yd,execOp,ho,hx,hy,resolve,invoke,builtin,Builtin.min_,Builtin.min2,kI,e]
 ·simp only[sJ] at ho
  have e:(if m<n then n else m)=max m n:=by split<;>omega
  simp[Yd,execOp,ho,hx,hy,resolve,invoke,builtin,Builtin.max_,Builtin.max2,kI,e]
theorem Mn{mx:Bool}{k:IntKind}{m n:Int}(hm:k.has m)(hn:k.has n):k.has (kI mx m n):=by
 obtain⟨h1,h2⟩:=hm;obtain⟨h3,h4⟩:=hn;cases mx<;>exact⟨by simp only[kI];omega,by simp only[kI];omega⟩
theorem Ua{t e:TypeId}{x:Operand}(ho:o.op=.call { callee:=.builtin .len,args:=#[x],argTypes:=#[t] })(ht:P.underlying t=some (.slice e)){p:Option Addr}{n c:Nat}
  (hx:a.eval x=.slice p n c):Yd P o a w (.int .i64 n):=by
 simp[Yd,execOp,ho,hx,resolve,invoke,builtin,Builtin.len_,run_underlying ht,goInt]
theorem Ub{t:TypeId}{x:Operand}(ho:o.op=.call { callee:=.builtin .len,args:=#[x],argTypes:=#[t] })(ht:P.underlying t=some .string){l:List UInt8}
  (hx:a.eval x=.string ⟨l.toArray⟩):Yd P o a w (.int .i64 l.length):=by
 simp[Yd,execOp,ho,hx,resolve,invoke,builtin,Builtin.len_,run_underlying ht,goInt];rfl
theorem H9{t e:TypeId}{x i:Operand}(ho:o.op=.indexAddr t x i)(ht:P.underlying t=some (.slice e)){sz:Nat}{inf:TypeInfo}(hi:P.info? e=some inf)(hsz:inf.size=sz)
  {b off n c:Nat} (hx:a.eval x=.slice (some ⟨b,off,none⟩) n c) {k:IntKind} {m:Int} (hm:a.eval i=.int k m) (h0 : 0<=m) (h1:m<n):Yd P o a w (.pointer (some ⟨b,off+m.toNat*sz,none⟩)):=by
 have hadd:(⟨b,off,none⟩:Addr).add (m.toNat*sz)=⟨b,off+m.toNat*sz,none⟩:=by
  unfold Addr.add;split<;>simp_all
 simp[Yd,execOp,ho,hx,hm,Instr.indexAt,asIntOf,run_underlying ht,h0,h1,sizeOf,typeInfo,hi,hsz,hadd]
theorem vM{t:TypeId}(h:jB P t=true):(isAgg t).run P w=.ok false w:=by
 unfold jB at h;cases hu:P.underlying t with
 | none=>simp[hu] at h
 | some d=>cases d<;>simp[hu] at h<;>simp[isAgg,run_underlying hu]
theorem vL{t:TypeId}(h:lq P t=true):(isAgg t).run P w=.ok true w:=by
 unfold lq at h;cases hu:P.underlying t with
 | none=>simp[hu] at h
 | some d=>cases d<;>simp[hu] at h<;>simp[isAgg,run_underlying hu]
theorem tN{t:TypeId}{n:Nat}(h:cU P t n=true):(sizeOf t).run P w=.ok n w:=by
 unfold cU at h;cases hi:P.info? t with
 | none=>simp[hi] at h
 | some i=>simp[hi] at h;simp[sizeOf,typeInfo,hi,h]
theorem T8{t:TypeId}{x:Operand}(ho:o.op=.load t x)(ht:jB P t=true){b off:Nat}(hx:a.eval x=.pointer (some ⟨b,off,none⟩)){v:Value}(hc:w.cell? ⟨b,off,none⟩=some v):Yd P o a w v:=by
 simp[Yd,execOp,ho,hx,Instr.loadAt,Instr.sureAddr,loadVar,vM ht,hc]
theorem T9{t:TypeId}{x:Operand}{n:Nat}(ho:o.op=.load t x)(ht:lq P t=true)(hn:cU P t n=true){b off:Nat}(hx:a.eval x=.pointer (some ⟨b,off,none⟩)){cs:List Value}
  (hl:cs.length=n) (hc:∀j v,cs[j]?=some v->w.cell? ⟨b,off+j,none⟩=some v):Yd P o a w (.agg cs.toArray):=by
 have h:=run_loadCells_list (P:=P) w ⟨b,off,none⟩ cs (fun j v hj=>by
  have hadd:(⟨b,off,none⟩:Addr).add j=⟨b,off+j,none⟩:=by unfold Addr.add;split<;>simp_all
  rw[hadd];exact hc j v hj)
 simp[Yd,execOp,ho,hx,Instr.loadAt,Instr.sureAddr,loadVar,vL ht,tN hn,<-hl,h]
theorem uj{t:TypeId}{x:Operand}{f:Nat}(ho:o.op=.fieldAddr t x f){off:Nat}{ft:TypeId}(hf:gM P t f=some (off,ft))(hz:cU P ft 0=false)(hs:(P.info? ft).isSome=true){b k:Nat}
  (hx:a.eval x=.pointer (some ⟨b,k,none⟩)):Yd P o a w (.pointer (some ⟨b,k+off,none⟩)):=by
 unfold gM at hf;cases hu:P.underlying t with
 | none=>simp[hu] at hf
 | some d =>
  cases d<;>simp[hu] at hf;obtain⟨fl,hfl,h1,h2⟩:=hf;subst h2;subst h1;cases hi:P.info? fl.type with
  | none=>simp[hi] at hs
  | some i =>
   have hne:¬i.size=0:=by simpa[cU,hi] using hz
   have hadd:(⟨b,k,none⟩:Addr).add fl.offset=⟨b,k+fl.offset,none⟩:=by unfold Addr.add;split<;>simp_all
   simp[Yd,execOp,ho,hx,Instr.fieldAt,run_underlying hu,hfl,Instr.sureAddr,fieldPlace,sizeOf,typeInfo,hi,hne,hadd]
theorem w8{t:TypeId}(ht:jB P t=true){cs:Array Value}{off:Nat}(h:off<cs.size):(part t cs off).run P w=.ok (cs.getD off undef) w:=by
 simp[part,vM ht,h]
theorem Py{t:TypeId}{n:Nat}(ht:lq P t=true)(hn:cU P t n=true){cs:Array Value}{off:Nat}:(part t cs off).run P w=.ok (.agg (cs.extract off (off+n))) w:=by
 simp[part,vL ht,tN hn]
theorem T5{t:TypeId}{x:Operand}{f:Nat}(ho:o.op=.field t x f){off:Nat}{ft:TypeId}(hf:gM P t f=some (off,ft))(hc:jB P ft=true){cs:Array Value}
  (hx:a.eval x=.agg cs) (hoff:off<cs.size):Yd P o a w (cs.getD off undef):=by
 unfold gM at hf;cases hu:P.underlying t with
 | none=>simp[hu] at hf
 | some d =>
  cases d<;>simp[hu] at hf;obtain⟨fl,hfl,h1,h2⟩:=hf;subst h2;subst h1;simp[Yd,execOp,ho,hx,Instr.field,run_underlying hu,hfl,asAgg,w8 hc hoff]
theorem T6{t:TypeId}{x:Operand}{f:Nat}(ho:o.op=.field t x f){off n:Nat}{ft:TypeId}(hf:gM P t f=some (off,ft))(hc:lq P ft=true)(hn:cU P ft n=true){cs:Array Value}
  (hx:a.eval x=.agg cs):Yd P o a w (.agg (cs.extract off (off+n))):=by
 unfold gM at hf;cases hu:P.underlying t with
 | none=>simp[hu] at hf
 | some d =>
  cases d<;>simp[hu] at hf;obtain⟨fl,hfl,h1,h2⟩:=hf;subst h2;subst h1;simp[Yd,execOp,ho,hx,Instr.field,run_underlying hu,hfl,asAgg,Py hc hn]
theorem T7{t:TypeId}{x i:Operand}(ho:o.op=.index t x i)(ht:P.underlying t=some .string){l:List UInt8}(hx:a.eval x=.string ⟨l.toArray⟩){k:IntKind}{m:Int}(hm:a.eval i=.int k m)
  (h0 : 0<=m) (h1:m<l.length):Yd P o a w (.int .u8 (l.getD m.toNat 0).toNat)/\IntKind.u8.has ((l.getD m.toNat 0).toNat:Int):=by
 have hlt:m.toNat<l.length:=by omega
 have hs:(⟨l.toArray⟩:ByteArray)[m.toNat]?=some (l.getD m.toNat 0):=by
  show(if h:m.toNat<(⟨l.toArray⟩:ByteArray).size then some _ else none)=_;rw[dif_pos (show m.toNat<(⟨l.toArray⟩:ByteArray).size from hlt)];simp[List.getD,hlt];rfl
 refine⟨?_,?_⟩
 ·simp[Yd,execOp,ho,hx,hm,Instr.index,asIntOf,run_underlying ht,h0,hs]
 ·generalize l.getD m.toNat 0=c
  have:=c.toNat_lt;constructor<;>simp[IntKind.min,IntKind.max,IntKind.signed,IntKind.bits]<;>omega
theorem T4{x:Operand}{i:Nat}(ho:o.op=.extract x i){cs:Array Value}(hx:a.eval x=.tuple cs)(hi:i<cs.size):Yd P o a w (cs.getD i undef):=by
 simp[Yd,execOp,ho,hx,Instr.extract,hi]
theorem um{x:Operand}(ho:o.op=.nilCheck x){p:Addr}(hx:a.eval x=.pointer (some p)):Yd P o a w (.pointer (some p)):=by
 simp[Yd,execOp,ho,hx]
theorem Ia{x:Operand}(ho:o.op=.nilCheck x){f:FuncId}{l r:Array Value}(hx:a.eval x=.func (.func f) l r):Yd P o a w (.func (.func f) l r):=by
 simp[Yd,execOp,ho,hx]
end
end Go.D3
namespace Go.D3
open Go
section
variable{w:World}{ct:Nat->D}{vl:Nat->Value}{A:Nat->Prop}
def Reach(w:World)(ct:Nat->D)(vl:Nat->Value)(k:Nat)(p:Path)(v:Value)(y:D):Prop :=
 ∀q,y.has q->(ct k).aS (p++q)/\aK w (vl k) (ct k) (p++q)=aK w v y q/\(q≠[]->az w (vl k) (ct k) (p++q)=az w v y q)
theorem Reach.aR{k:Nat}{p:Path}{v:Value}{y:D}(h:Reach w ct vl k p v y){i off:Nat}(hk:y.jG i off){u:Value}(hu:bY w v y i off=some u):Reach w ct vl k (p++[(i,off)]) u (y.aR i off):=by
 intro q hq;obtain⟨h1,h2,h3⟩:=h ((i,off)::q) ⟨hk,hq⟩;rw[List.append_assoc,List.singleton_append];refine⟨h1,?_,fun hne=>?_⟩
 ·rw[h2];simp only[aK,hu,Option.bind_some]
 ·rw[h3 (by simp)]
  cases q with
  | nil=>exact absurd rfl hne
  | cons t q=>simp only[az,hu,Option.bind_some]
theorem Reach.root{k:Nat}{x:D}{F:Nat->Prop}(hc:ct k=.o x)(h:aj w A (vl k) x F):Reach w ct vl k [] (vl k) x:=by
 intro q hq;rw[List.nil_append,hc];exact⟨hq,(gf h w q).1,fun _=>(gf h w q).2⟩
theorem Reach.part{R:Value->D->Prop}{k:Nat}{F:Nat->Prop}(h:aE w A R (vl k) F (ct k)){p:Path}(hp:(ct k).aS p)(hne:p≠[]){u:Value}(hu:aK w (vl k) (ct k) p=some u){F':Nat->Prop}
  (hlv:a8 (ct k) p=true->(ct k).at p=.o ((ct k).aZ p)) (hown:aj w A u ((ct k).aZ p) F'):Reach w ct vl k p u ((ct k).aZ p):=by
 intro q hq
 have hval:∀q,aK w u ((ct k).at p) q=aK w u ((ct k).aZ p) q/\az w u ((ct k).at p) q=az w u ((ct k).aZ p) q:=by
  intro q;by_cases hl:(ct k).at p=.o ((ct k).aZ p)
  ·rw[hl];exact gf hown w q
  ·have:(ct k).at p=(ct k).aZ p:=by
    unfold D.aZ at hl|-
    generalize(ct k).at p=z at hl|-
    cases z<;>first | rfl | (exfalso;exact hl rfl)
   rw[this];exact⟨rfl,rfl⟩
 refine⟨?_,?_,fun hq'=>?_⟩
 ·revert hp hlv hq
  unfold D.aZ;intro hp hlv hq;cases hc:ct k<;>rw[hc] at hp hlv hq<;>try exact hp.elim
  case row z l=>exact absurd hp hne
  case o x =>
   rw[hc] at h;rw[D.lv h hne] at hq
   have hx:(x.at p).un=x.at p:=by
    obtain⟨_,_,_,g1,g2,_⟩:=aj.splitAt p h hp;exact g2.un.1
   rw[hx] at hq;exact(lK x p q).2 ⟨hp,hq⟩
  case box l =>
   cases p with
   | nil=>exact absurd rfl hne
   | cons s p =>
    obtain⟨i,off⟩:=s;obtain⟨rfl,ho,hp⟩:=hp;have hk:D.aR (.box l) 0 off=l.getD off .dead:=rfl;cases p with
    | nil =>
     cases q with
     | nil=>exact⟨rfl,ho,trivial⟩
     | cons t q =>
      have hat:=hlv rfl;have e:(D.box l).at [(0,off)]=l.getD off .dead:=rfl;rw[e] at hat hq;refine⟨rfl,ho,?_⟩;rw[hat];exact hq
    | cons t p =>
     simp only at hp;split at hp
     ·rename_i y hy
      rw[hc] at h;obtain⟨_,b,cs,e,Fs,h1,h2,h3,h4,h5,h6,h7⟩:=h
      have hget:l[off]?=some (.o y):=by
       rw[List.getD_eq_getElem?_getD,List.getElem?_eq_getElem ho] at hy;rw[List.getElem?_eq_getElem ho];simpa using hy
      have hown':=h4 off _ hget;simp only[bI] at hown';have e:(D.box l).at ((0,off)::t::p)=y.at (t::p):=by rw[D.at,hk,hy,D.lv hown' (by simp)]
      rw[e] at hq
      have hx:(y.at (t::p)).un=y.at (t::p):=by
       obtain⟨_,_,_,g1,g2,_⟩:=aj.splitAt (t::p) hown' hp;exact g2.un.1
      rw[hx] at hq;refine⟨rfl,ho,?_⟩;rw[hy];exact(lK y (t::p) q).2 ⟨hp,hq⟩
     ·exact hp.elim
 ·rw[TN,hu,Option.bind_some];exact(hval q).1
 ·rw[qb w p q _ _ hq',hu,Option.bind_some];exact(hval q).2
theorem vq(k:Nat)(p:Path):∀(l:List D)(j n:Nat),(iU k p j l)[n]?=(l[n]?).map (cQ k (p++[(0,j+n)]))
 | [],j,n=>by simp[iU]
 | x::r,j,0=>by simp[iU]
 | x::r,j,n+1=>by
  simp only[iU,List.getElem?_cons_succ,vq k p r (j+1) n];rw[show j+1+n=j+(n+1) by omega]
theorem vr(k:Nat)(p:Path):∀(l:List D)(j:Nat),(iU k p j l).length=l.length
 | [],_=>rfl
 | x::r,j=>by simp[iU,vr k p r]
theorem C7(c:D)(p:Path)(s t:Nat×Nat):a8 c (p++[s]++[t])=false:=by
 have:∃a b r,p++[s]++[t]=a::b::r:=by
  cases p with
  | nil=>exact⟨s,t,[],rfl⟩
  | cons a p=>cases p with
   | nil=>exact⟨a,s,[t],rfl⟩
   | cons b p=>exact⟨a,b,p++[s]++[t],rfl⟩
 obtain⟨a,b,r,h⟩:=this;rw[h];cases c<;>rfl
theorem vt{k:Nat}(y:D):∀{p:Path}{v:Value}{F:Nat->Prop},aj w A v y F->(a8 (ct k) p=true->((ct k).at p).gu=true)->(∀s,a8 (ct k) (p++[s])=false)->Reach w ct vl k p v y->Pl w A (aa w ct vl) v (cQ k p y):=by
 induction y using D.ind with
 | int a n=>intro p v F h _ _ _;cases h with | int h=>exact .rd (.int h)
 | bool b=>intro p v F h _ _ _;cases h;exact .rd .bool
 | str s=>intro p v F h _ _ _;cases h with | str h=>exact .rd (.str h)
 | aN=>intro p v F h _ _ _;cases h;exact .rd .aN
 | fn f caps _=>intro p v F h _ _ _;cases h;exact .rd (.fn rfl (fun j x hx=>by simp at hx))
 | vw x _=>intro p v F h _ _ _;cases h with | vw h=>exact .rd h
 | slice z l _ _ =>
  intro p v F h hS hN hr;obtain⟨h1,h2,_⟩:=hr [] trivial;rw[List.append_nil] at h1 h2;refine .ref ⟨⟨h1,hS⟩,h2,?_⟩;cases h with
  | nil=>exact .inl ⟨_,_,_,rfl⟩
  | slice=>exact .inl ⟨_,_,_,rfl⟩
 | mp ks vs _ _ =>
  intro p v F h hS hN hr;obtain⟨h1,h2,_⟩:=hr [] trivial;rw[List.append_nil] at h1 h2;refine .ref ⟨⟨h1,hS⟩,h2,?_⟩;cases h with
  | mp=>exact .inr ⟨_,rfl⟩
 | bA=>intro p v F h _ _ _;cases h;exact .rd .bA
 | bc=>intro p v F h _ _ _;cases h;exact .rd .bc
 | bG s p=>intro p v F h _ _ _;exact Pl.dead
 | fH n=>intro p v F h _ _ _;exact Pl.dead
 | bk t x _=>intro p v F h _ _ _;cases h with | bk h=>exact .rd (.bk h)
 | ptr l _ =>
  intro p v F h hS hN hr;cases l with
  | nil=>exact Pl.dead
  | cons x r =>
   have hun:=h.un.1;obtain⟨h1,_,h3⟩:=hr [(0,0)] ⟨by unfold D.jG;rw[hun];exact⟨rfl,by simp⟩,trivial⟩;have h3:=h3 (by simp);simp only[cQ];cases h with
   | ptr Fs hb hs hr' hF hfs hdis =>
    refine .ref ⟨h1,_,h3,?_⟩;simp only[Nat.add_zero]
 | agg l ih =>
  intro p v F h hS hN hr;cases h with
  | @agg cs _ _ Fs hs hr' hfs hdis =>
   refine .agg (by rw[vr];exact hs) fun j x hx=>?_
   rw[vq,Option.map_eq_some_iff] at hx;obtain⟨y,hy,rfl⟩:=hx;obtain⟨hj,hy'⟩:=List.getElem?_eq_some_iff.1 hy;rw[Nat.zero_add]
   have hk:(D.agg l).aR 0 j=y:=by
    show l.getD j .dead=y;rw[List.getD_eq_getElem?_getD,hy];rfl
   have:=Reach.aR (i:=0) (off:=j) (u:=cs.getD j undef) hr ⟨rfl,hj⟩ rfl;rw[hk] at this;exact ih y (List.mem_of_getElem? hy) (hr' j y hy) (fun hl=>by rw[hN] at hl;cases hl) (fun s=>C7 _ _ _ s) this
 | af l ih =>
  intro p v F h hS hN hr;cases h with
  | @af cs _ _ Fs hs hr' hfs hdis =>
   refine .af (by rw[vr];exact hs) fun j x hx=>?_
   rw[vq,Option.map_eq_some_iff] at hx;obtain⟨y,hy,rfl⟩:=hx;obtain⟨hj,hy'⟩:=List.getElem?_eq_some_iff.1 hy;rw[Nat.zero_add]
   have hk:(D.af l).aR 0 j=y:=by
    show l.getD j .dead=y;rw[List.getD_eq_getElem?_getD,hy];rfl
   have:=Reach.aR (i:=0) (off:=j) (u:=cs.getD j undef) hr ⟨rfl,hj⟩ rfl;rw[hk] at this;exact ih y (List.mem_of_getElem? hy) (hr' j y hy) (fun hl=>by rw[hN] at hl;cases hl) (fun s=>C7 _ _ _ s) this
 | _=>intro p v F h _ _ _;exact Pl.dead
def bT(w:World)(A:Nat->Prop)(R:Value->D->Prop)(v:Value)(d:D):Prop:=(d.gate=true->Pl w A R v d.core)/\(d.gate=false->v=undef)
theorem JP{d:D}(h:∀g x,d≠.when g x):d.core=d/\d.gate=true:=by
 cases d<;>first | exact⟨rfl,rfl⟩ | exact absurd rfl (h _ _)
theorem Pl.nI{R:Value->D->Prop}{v:Value}{d:D}(h:Pl w A R v d)(hR:∀v g x,¬R v (.when g x)):bT w A R v d:=by
 have:∀g x,d≠.when g x:=by
  rintro g x rfl;cases h with
  | rd h=>cases h
  | ref h=>exact hR _ _ _ h
 obtain⟨h1,h2⟩:=JP this;exact⟨fun _=>by rw[h1];exact h,fun hh=>by rw[h2] at hh;cases hh⟩
theorem nO(v:Value)(g:Bool)(x:D):¬aa w ct vl v (.when g x):=fun h=>h
theorem lX{k:Nat}{F:Nat->Prop}(h:aE w A (aa w ct vl) (vl k) F (ct k)):bT w A (aa w ct vl) (vl k) (bX k (ct k)):=by
 cases hc:ct k<;>rw[hc] at h<;>try exact Pl.nI h nO
 case o x=>exact Pl.nI (vt x h (fun hl=>by rw[hc] at hl;cases hl) (fun s=>by rw[hc];rfl) (Reach.root hc h)) nO
 case box l =>
  obtain⟨h0,b,cs,e,Fs,h1,h2,h3,h4,h5,h6,h7⟩:=h;refine Pl.nI (.ref ⟨?_,⟨b,0,none⟩,?_,h1⟩) nO
  ·rw[hc];exact⟨rfl,h0,trivial⟩
  ·rw[hc,h1];rfl
 case row z l =>
  refine Pl.nI (.ref ⟨?_,?_,?_⟩) nO
  ·rw[hc];exact⟨rfl,fun hl=>by cases hl⟩
  ·rfl
  ·obtain⟨b,sz,cs,e,h1,_⟩:=h
   exact .inl ⟨_,_,_,h1⟩
 case when g c =>
  obtain⟨h1,h2⟩:=h;have key:∀(c:D),(g=true->Pl w A (aa w ct vl) (vl k) c)->(g=true->bT w A (aa w ct vl) (vl k) c):=fun c h hg=>(h hg).nI nO
  have h1:=key c h1;show bT w A _ _ (.when g c);cases g with
  | true=>exact⟨fun hg=>(h1 rfl).1 (by simpa[D.gate] using hg),fun hg=>(h1 rfl).2 (by simpa[D.gate] using hg)⟩
  | false=>exact⟨fun hg=>by simp[D.gate] at hg,fun _=>h2 rfl⟩
theorem C6{c:D}{p:Path}(hp:p≠[])(s:Nat×Nat):a8 c (p++[s])=false:=by
 cases p with
 | nil=>exact absurd rfl hp
 | cons a p=>cases p<;>cases c<;>rfl
theorem v8{k:Nat}{F:Nat->Prop}(h:aE w A (aa w ct vl) (vl k) F (ct k)){p:Path}(hp:(ct k).aS p)(hne:p≠[]){a:Addr}(ha:az w (vl k) (ct k) p=some a) :
  ∃u,w.cell? a=some u/\a.spot=none/\Pl w A (aa w ct vl) u (nn k (ct k) p):=by
 obtain⟨u,F1,F2,g1,g2,g3,g4,g5,g6,g7⟩:=h.splitAt hp hne;obtain⟨j1,j2,j3,_⟩:=g7 a ha;refine⟨u,j3,j2,?_⟩;unfold nn e8 at *;cases hl:a8 (ct k) p with
 | true =>
  rw[hl] at g2;simp only at g2|-
  generalize hc:(ct k).at p=c at g2;cases c<;>try exact g2
  all_goals try exact g2.elim
  case o x =>
   have hd:(ct k).aZ p=x:=by unfold D.aZ;rw[hc];rfl
   have:=Reach.part h hp hne g1 (fun _=>by rw[hd,hc]) (by rw[hd];exact g2);rw[hd] at this;exact vt x g2 (fun _=>by rw[hc];rfl) (C6 hne) this
 | false =>
  rw[hl] at g2;simp only at g2|-
  have hd:(ct k).aZ p=(ct k).at p:=g2.un.1;have:=Reach.part h hp hne g1 (fun hh=>by rw[hl] at hh;cases hh) (by rw[hd];exact g2);rw[hd] at this;exact vt _ g2 (fun hh=>by rw[hl] at hh;cases hh) (C6 hne) this
theorem kZ{k:Nat}{F:Nat->Prop}(h:aE w A (aa w ct vl) (vl k) F (ct k)){p:Path}{v:Value}(hr:aa w ct vl v (.sub k p)) :
  (∃z l,ct k=.row z l/\p=[]/\v=vl k)\/(∃F',aj w A v ((ct k).aZ p) F'/\(∀b,F' b->F b)/\Reach w ct vl k p v ((ct k).aZ p)/\(∀z l,ct k≠.row z l)):=by
 obtain⟨⟨h1,hS⟩,h2,hsl⟩:=hr;cases p with
 | nil =>
  simp only[aK,Option.some.injEq] at h2;cases hc:ct k<;>rw[hc] at h h1<;>try exact h1.elim
  case o x =>
   refine .inr ⟨F,by rw[<-h2];exact h,fun _ h=>h,?_,by simp⟩;rw[<-h2];exact Reach.root hc h
  case box l =>
   obtain⟨_,b,cs,e,Fs,h3,_⟩:=h;rw[<-h2,h3] at hsl;rcases hsl with⟨_,_,_,hh⟩ | ⟨_,hh⟩<;>cases hh
  case row z l=>exact .inl ⟨z,l,rfl,rfl,h2.symm⟩
 | cons s p =>
  obtain⟨u,F1,F2,g1,g2,g3,g4,g5,g6,g7⟩:=h.splitAt h1 (by simp);rw[g1] at h2;injection h2 with h2
  subst h2
  have hrow:∀z l,ct k≠.row z l:=by
   intro z l hc;rw[hc] at h1;exact absurd h1 (by simp[D.aS])
  unfold e8 at g2;cases hl:a8 (ct k) (s::p) with
  | false =>
   rw[hl] at g2;simp only at g2;have hd:(ct k).aZ (s::p)=(ct k).at (s::p):=g2.un.1;have hown:aj w A u ((ct k).aZ (s::p)) F1:=by rw[hd];exact g2
   exact .inr ⟨F1,hown,g3,Reach.part h h1 (by simp) g1 (fun hh=>by rw[hl] at hh;cases hh) hown,hrow⟩
  | true =>
   rw[hl] at g2;simp only at g2;obtain⟨x,hat⟩:=vO (hS hl);rw[hat] at g2;have hd:(ct k).aZ (s::p)=x:=by unfold D.aZ;rw[hat];rfl
   have hown:aj w A u ((ct k).aZ (s::p)) F1:=by rw[hd];exact g2
   exact .inr ⟨F1,hown,g3,Reach.part h h1 (by simp) g1 (fun _=>by rw[hd,hat]) hown,hrow⟩
end
end Go.D3
namespace Go.D3
open Go
def mU:List UInt8->List UInt8->Bool
 | [],[]=>true
 | a::l,b::r=>a == b&&mU l r
 | _,_=>false
def aB(ds:List (Option Nat))(tr:List Nat)(x:Operand)(y:X):Bool :=
 match x,y with
 | .tmp t,.t i=>decide (ds[i]?=some (some t))
 | .tmp t,.v j=>decide (tr[j]?=some t)
 | .const (.int k n),.i m=>decide (k=.i64)&&decide (n=m)&&qK k n
 | .const (.int k n),.k (.int k' m)=>decide (k=k')&&decide (n=m)&&qK k n
 | .const (.bool b),.k (.bool c)=>b == c
 | .const (.string s),.k (.str l)=>mU s.data.toList l&&decide (l.length<=65536)
 | .const (.slice none 0 0),.k (.aC _)=>true
 | .const (.pointer none),.k .aN=>true
 | .func f,.k (.fn f' [])=>f == f'
 | .global g,.g n=>g == n&&(gl n).isSome
 | .const .nilIface,.k .bc=>true
 | _,_=>false
def dT(ds:List (Option Nat))(tr:List Nat):List Operand->List X->Bool
 | [],[]=>true
 | x::l,y::r=>aB ds tr x y&&dT ds tr l r
 | _,_=>false
def ni(ds:List (Option Nat))(tr:List Nat):Option Operand->Option X->Bool
 | none,none=>true
 | some x,some y=>aB ds tr x y
 | _,_=>false
def fq(v:Value)(d:D):Bool :=
 match v,d with
 | .int k n,.int k' m=>decide (k=k')&&decide (n=m)&&qK k n
 | .bool b,.bool c=>b == c
 | .string s,.str []=>s.data.toList.isEmpty
 | .nilFunc,.dead=>true
 | .slice none 0 0,.slice _ []=>true
 | .pointer none,.aN=>true
 | .map none,.bA=>true
 | .nilIface,.bc=>true
 | _,_=>false
def p7:List Value->List D->Bool
 | [],[]=>true
 | v::l,d::r=>fq v d&&p7 l r
 | _,_=>false
def mB(P:Program)(t:TypeId)(zs:List D):Bool :=
 match P.info? t with
 | some i=>match i.zero with
  | some z=>p7 z.cells.toList zs&&decide (i.size=zs.length)
  | none=>false
 | none=>false
def AA:D->D
 | .vw (.aC z)=>.slice z []
 | d=>d
def lb:D->D
 | .aC z=>.slice z []
 | d=>d
def jJ(P:Program)(t:TypeId)(k:Nat):Bool:=match P.underlying t,k with
 | some (.int _),0=>true
 | some .bool,1=>true
 | some .string,2=>true
 | _,_=>false
def eqFields(P:Program):Nat->List Field->List Nat->Bool
 | _,[],[]=>true
 | i,f::r,k::ks=>f.name != "_"&&decide (f.offset=i)&&jJ P f.type k&&eqFields P (i+1) r ks
 | _,_,_=>false
def ng(P:Program)(ds:List (Option Nat))(tr:List Nat)(t:TypeId):List (Nat×Operand)->List (Nat×Nat×X)->Bool
 | [],[]=>true
 | (i,x)::l,(off,n,y)::r=>(match gM P t i with
     | some (o,ft)=>decide (o=off)&&cU P ft n
     | none=>false)&&aB ds tr x y&&ng P ds tr t l r
 | _,_=>false
def Ca(P:Program)(t:TypeId):Bool:=match P.underlying t with
 | some (.struct fs)=>fs.toList.all fun f=>(P.info? f.type).isSome
 | _=>false
def jc(ds:List (Option Nat))(tr:List Nat):List (Nat×Operand)->List (Nat×X)->Bool
 | [],[]=>true
 | (i,x)::l,(j,y)::r=>i == j&&aB ds tr x y&&jc ds tr l r
 | _,_=>false
def s7:Op->Option Operand
 | .move x=>some x
 | .assign x=>some x
 | _=>none
def U0:Option Operand->Bool
 | some (.const (.slice none 0 0))=>true
 | _=>false
def w4:Op->Option (Operand×Operand×Operand)
 | .pick c a b=>some (c,a,b)
 | _=>none
def lV:Op->Option (BinOp×TypeId×Operand×Operand)
 | .binOp op t x y _=>some (op,t,x,y)
 | _=>none
def wY:Op->Option Operand
 | .unOp .not _ x=>some x
 | _=>none
def qO:Op->Option (TypeId×TypeId×Operand)
 | .convert s d x=>some (s,d,x)
 | _=>none
def kN(b:Builtin):Op->Option (List Operand×List TypeId)
 | .call c=>match c.callee with
  | .builtin b'=>if b=b' then some (c.args.toList,c.argTypes.toList) else none
  | _=>none
 | _=>none
def nD:Op->Option (FuncId×List Operand)
 | .call c=>match c.callee with
  | .value (.func f)=>some (f,c.args.toList)
  | _=>none
 | _=>none
def wM:Op->Option (Operand×List Operand)
 | .call c=>match c.callee with
  | .value x=>some (x,c.args.toList)
  | _=>none
 | _=>none
def wP:Op->Option (TypeId×Operand×Operand)
 | .indexAddr t x i=>some (t,x,i)
 | _=>none
def s6:Op->Option (TypeId×Operand)
 | .load t x=>some (t,x)
 | _=>none
def qQ:Op->Option (TypeId×Operand×Operand)
 | .store t x y=>some (t,x,y)
 | _=>none
def wO:Op->Option (TypeId×Operand×Nat)
 | .fieldAddr t x f=>some (t,x,f)
 | _=>none
def s5:Op->Option (TypeId×Operand×Nat)
 | .field t x f=>some (t,x,f)
 | _=>none
def wI:Op->Option (TypeId×Array (Nat×Operand))
 | .build t ps=>some (t,ps)
 | _=>none
def wQ:Op->Option (TypeId×Operand×Operand)
 | .index t x i=>some (t,x,i)
 | _=>none
def wN:Op->Option (Operand×Nat)
 | .extract x i=>some (x,i)
 | _=>none
def wX:Op->Option Operand
 | .nilCheck x=>some x
 | _=>none
def sZ:Op->Option (TypeId×Operand)
 | .box t x=>some (t,x)
 | _=>none
def wH:Op->Option TypeId
 | .alloc t=>some t
 | _=>none
def wU:Op->Option (TypeId×Operand×Operand)
 | .makeSlice t x y=>some (t,x,y)
 | _=>none
def sY:Op->Option (TypeId×Nat×Array (Nat×Operand))
 | .buildSlice t n ps=>some (t,n,ps)
 | _=>none
def s9:Op->Option (TypeId×Operand×Option Operand×Option Operand)
 | .slice t x lo hi none=>some (t,x,lo,hi)
 | _=>none
def wT:Op->Option TypeId
 | .makeMap t none=>some t
 | _=>none
def wR:Op->Option (TypeId×Operand×Operand×Bool)
 | .lookup t x i ok=>some (t,x,i,ok)
 | _=>none
def wW:Op->Option (TypeId×Operand×Operand×Operand)
 | .mapUpdate t m k v=>some (t,m,k,v)
 | _=>none
def o8(P:Program)(t:TypeId):Option (TypeId×TypeId):=match P.underlying t with
 | some (.map k e)=>some (k,e)
 | _=>none
def zeroV(P:Program)(t:TypeId)(d:D):Bool:=match P.info? t with
 | some i=>match i.zero with
  | some z=>fq z d&&d.bQ
  | none=>false
 | none=>false
def w5:Op->Option (TypeId×Operand)
 | .range t x=>some (t,x)
 | _=>none
def wZ:Op->Option Operand
 | .next x true=>some x
 | _=>none
def wS:Op->Option (TypeId×Operand)
 | .makeInterface t x=>some (t,x)
 | _=>none
def wV:Op->Option (FuncId×Array Operand×Array Operand)
 | .makeFunc (.func f) first caps=>some (f,first,caps)
 | _=>none
def aQ(P:Program)(ds:List (Option Nat))(tr:List Nat)(o:Oper):Kp->Bool
 | .mv y | .bo y | .bW _ y | .iP _ y | .iQ _ y=>match s7 o.op with
  | some x=>aB ds tr x y
  | none=>false
 | .pick c a b=>match w4 o.op with
  | some (c',a',b')=>aB ds tr c' c&&aB ds tr a' a&&aB ds tr b' b
  | none=>false
 | .bin op x y=>match lV o.op with
  | some (op',_,x',y')=>decide (op=op')&&aB ds tr x' x&&aB ds tr y' y
  | none=>false
 | .shr x y=>match lV o.op with
  | some (op',_,x',y')=>decide (op'=.shr)&&aB ds tr x' x&&aB ds tr y' y
  | none=>false
 | .ox op x y=>match lV o.op with
  | some (op',t,x',y')=>decide (op=op')&&aB ds tr x' x&&aB ds tr y' y&&(match P.underlying t with | some .bool=>true | _=>false)
  | none=>false
 | .not x=>match wY o.op with
  | some x'=>aB ds tr x' x
  | none=>false
 | .conv k x=>match qO o.op with
  | some (s,d,x')=>aB ds tr x' x&&(match P.underlying s,P.underlying d with | some (.int _),some (.int k')=>decide (k=k') | _,_=>false)
  | none=>false
 | .len x=>match kN .len o.op with
  | some ([x'],[t])=>aB ds tr x' x&&(gD P t).isSome
  | _=>false
 | .mm mx x y=>match kN (sJ mx) o.op with
  | some ([x',y'],_)=>aB ds tr x' x&&aB ds tr y' y
  | _=>false
 | .o5 x=>match kN .len o.op with
  | some ([x'],[t])=>aB ds tr x' x&&(match P.underlying t with | some .string=>true | _=>false)
  | _=>false
 | .bb sz x i=>match wP o.op with
  | some (t,x',i')=>aB ds tr x' x&&aB ds tr i' i&&decide (0<sz)&&(match gD P t with | some e=>cU P e sz | none=>false)
  | none=>false
 | .ld a=>match s6 o.op with
  | some (t,a')=>aB ds tr a' a&&jB P t
  | none=>false
 | .dN n a=>match s6 o.op with
  | some (t,a')=>aB ds tr a' a&&lq P t&&cU P t n
  | none=>false
 | .fA off a=>match wO o.op with
  | some (t,a',f)=>aB ds tr a' a&&(match gM P t f with | some (o,ft)=>decide (o=off)&&!cU P ft 0&&(P.info? ft).isSome | none=>false)
  | none=>false
 | .oP off x=>match s5 o.op with
  | some (t,x',f)=>aB ds tr x' x&&(match gM P t f with | some (o,ft)=>decide (o=off)&&jB P ft | none=>false)
  | none=>false
 | .oQ off n x=>match s5 o.op with
  | some (t,x',f)=>aB ds tr x' x&&(match gM P t f with | some (o,ft)=>decide (o=off)&&lq P ft&&cU P ft n | none=>false)
  | none=>false
 | .gk zs parts=>match wI o.op with
  | some (t,ps)=>mB P t (zs.map lb)&&ng P ds tr t ps.toList parts&&Ca P t
  | none=>false
 | .oV x i=>match wQ o.op with
  | some (t,x',i')=>aB ds tr x' x&&aB ds tr i' i&&(match P.underlying t with | some .string=>true | _=>false)
  | none=>false
 | .ext i x=>match wN o.op with
  | some (x',i')=>aB ds tr x' x&&i == i'
  | none=>false
 | .lR x=>match wX o.op with
  | some x'=>aB ds tr x' x
  | none=>false
 | .eqs neg ks x y=>match lV o.op with
  | some (op,t,x',y')=>decide (op=if neg then .neq else .eql)&&aB ds tr x' x&&aB ds tr y' y&&(match P.underlying t with | some (.struct fs)=>eqFields P 0 fs.toList ks&&!P.stoodInHeld t | _=>false)&&!P.eqGuardType P.depth t
  | none=>false
 | .call f xs=>match nD o.op with
  | some (f',as)=>f == f'&&dT ds tr as xs&&dY P f
  | none=>false
 | .gK f xs=>match nD o.op with
  | some (f',as)=>f == f'&&dT ds tr as xs&&dY P f
  | none=>false
 | .fM f xs=>match nD o.op with
  | some (f',as)=>f == f'&&dT ds tr as xs&&dY P f
  | none=>false
 | .box n x=>match sZ o.op with
  | some (e,x')=>aB ds tr x' x&&cU P e n
  | none=>false
 | .fa n x | .j8 n x=>match sZ o.op with
  | some (e,x')=>aB ds tr x' x&&cU P e n
  | none=>false
 | .eN zs=>match wH o.op with
  | some t=>mB P t (zs.map lb)
  | none=>false
 | .ae z bytes l c=>match wU o.op with
  | some (t,l',c')=>aB ds tr l' l&&aB ds tr c' c&&decide (0<z.cells.length)&&(match gD P t with | some e=>mB P e (z.cells.map AA)&&mM P e bytes&&decide (0<bytes) | none=>false)
  | none=>false
 | .cd z n parts=>match sY o.op with
  | some (t,n',ps)=>n == n'&&jc ds tr ps.toList parts&&decide (0<z.cells.length)&&decide (n*z.cells.length<=16777216)&&(match gD P t with | some e=>mB P e z.cells | none=>false)
  | none=>false
 | .j6 z x=>match sY o.op with
  | some (t,n',ps)=>decide (n'=1)&&jc ds tr ps.toList [(0,x)]&&decide (0<z.cells.length)&&decide (z.cells.length<=16777216)&&(match gD P t with | some e=>mB P e z.cells | none=>false)
  | none=>false
 | .st a x=>match qQ o.op with
  | some (t,a',x')=>aB ds tr a' a&&aB ds tr x' x&&cU P t 1
  | none=>false
 | .eJ n a x=>match qQ o.op with
  | some (t,a',x')=>aB ds tr a' a&&aB ds tr x' x&&cU P t n
  | none=>false
 | .jX n a x=>match qQ o.op with
  | some (t,a',x')=>aB ds tr a' a&&aB ds tr x' x&&cU P t n
  | none=>false
 | .app sz bytes s x=>match kN .append o.op with
  | some ([s',x'],[t,t'])=>aB ds tr s' s&&aB ds tr x' x&&t == t'&&(match gD P t with
   | some e=>mM P e bytes&&(match P.info? e with | some i=>decide (0<sz)&&decide (0<bytes)&&decide (i.size=sz)&&i.zero.any (fun z=>decide (z.cells.size=i.size)) | none=>false) | none=>false)
  | _=>false
 | .dJ sz bytes b s=>match kN .append o.op with
  | some ([s',x'],[t,t'])=>aB ds tr s' (.t b)&&aB ds tr x' (.t s)&&t == t'&&(match gD P t with
   | some e=>mM P e bytes&&(match P.info? e with | some i=>decide (0<sz)&&decide (0<bytes)&&decide (i.size=sz)&&i.zero.any (fun z=>decide (z.cells.size=i.size)) | none=>false) | none=>false)
  | _=>false
 | .nY x lo hi=>match s9 o.op with
  | some (t,x',lo',hi')=>aB ds tr x' x&&ni ds tr lo' lo&&ni ds tr hi' hi&&(match P.underlying t with | some .string=>true | _=>false)
  | none=>false
 | .sl x lo hi=>match s9 o.op with
  | some (t,x',lo',hi')=>aB ds tr x' x&&ni ds tr lo' lo&&ni ds tr hi' hi&&(match P.underlying t with | some (.slice e)=>cU P e 1 | _=>false)
  | none=>false
 | .pa f caps=>match wV o.op with
  | some (f',first,captured)=>f == f'&&first.isEmpty&&dT ds tr captured.toList caps
  | none=>false
 | .dM x y=>match kN .copy o.op with
  | some ([x',y'],[t,t'])=>aB ds tr x' x&&aB ds tr y' y&&(match gD P t,gD P t' with | some e,some _=>cU P e 1 | _,_=>false)
  | _=>false
 | .dyn x xs=>match wM o.op with
  | some (x',as)=>aB ds tr x' x&&dT ds tr as xs
  | none=>false
 | .fC=>(wT o.op).isSome
 | .nq ok kk z m k=>match wR o.op with
  | some (t,m',k',ok')=>aB ds tr m' m&&aB ds tr k' k&&ok == ok'&&(match o8 P t with | some (kt,e)=>jJ P kt kk&&zeroV P e z | none=>false)
  | none=>false
 | .nm x=>match kN .len o.op with
  | some ([x'],[t])=>aB ds tr x' x&&(o8 P t).isSome
  | _=>false
 | .kJ kk m k v=>match wW o.op with
  | some (t,m',k',v')=>aB ds tr m' m&&aB ds tr k' k&&aB ds tr v' v&&(match o8 P t with | some (kt,_)=>jJ P kt kk | none=>false)
  | none=>false
 | .mR x=>match qO o.op with
  | some (s,d,x')=>aB ds tr x' x&&(match P.underlying s,P.underlying d with
   | some (.slice e),some .string=>(match P.underlying e with | some (.int .u8)=>true | _=>false)
   | _,_=>false)
  | none=>false
 | .fw x=>match qO o.op with
  | some (s,d,x')=>aB ds tr x' x&&(match P.underlying s,P.underlying d with
   | some .string,some (.slice e)=>(match P.underlying e with | some (.int .u8)=>true | _=>false)
   | _,_=>false)
  | none=>false
 | .pe neg x=>match lV o.op with
  | some (op',t,x',.const .nilIface)=>decide (op'=if neg then .neq else .eql)&&aB ds tr x' x&&(match P.underlying t with | some (.interface _)=>true | _=>false)
  | _=>false
 | .nw neg x=>match lV o.op with
  | some (op',t,x',.const (.slice none _ _))=>decide (op'=if neg then .neq else .eql)&&aB ds tr x' x&&(gD P t).isSome
  | _=>false
 | .o9 t x=>match wS o.op with
  | some (t',x')=>decide (t=t')&&aB ds tr x' x&&(match P.underlying t with | some (.interface _)=>false | some _=>true | none=>false)
  | none=>false
 | .eW x=>match w5 o.op with
  | some (t,x')=>aB ds tr x' x&&(match P.underlying t with | some .string=>true | _=>false)
  | none=>false
 | .kL j=>match wZ o.op with
  | some x'=>aB ds tr x' (.v j)
  | none=>false
def closure(acc:List Nat)(o:Oper):Nat:=o.after.toList.foldl (fun s e=>if Region.binds .any e=true then s ||| (1 <<< e.on ||| acc.getD e.on 0) else s) 0
def dz:List Nat->List Oper->List Nat
 | acc,[]=>acc
 | acc,o::r=>dz (acc++[closure acc o]) r
def eP(cl:List Nat)(i x:Nat):Bool:=(cl.getD i 0).testBit x
def fX:X->List Nat
 | .t n=>[n]
 | _=>[]
def xl:Option X->List Nat
 | some x=>fX x
 | none=>[]
def Kp.reads:Kp->List Nat
 | .mv x | .bo x | .bW _ x | .iP _ x | .iQ _ x | .not x | .conv _ x | .len x | .o5 x | .ld x | .dN _ x | .fA _ x | .oP _ x | .oQ _ _ x | .ext _ x | .lR x | .box _ x | .fa _ x | .j8 _ x | .j6 _ x | .nm x | .mR x | .nw _ x | .o9 _ x | .pe _ x | .eW x | .fw x=>fX x
 | .eN _=>[]
 | .fC | .kL _=>[]
 | .dJ _ _ b s=>[b,s]
 | .pick a b c | .kJ _ a b c=>fX a++fX b++fX c
 | .bin _ x y | .shr x y | .mm _ x y | .ox _ x y | .bb _ x y | .oV x y | .eqs _ _ x y | .ae _ _ x y | .st x y | .eJ _ x y | .jX _ x y | .dM x y | .app _ _ x y | .nq _ _ _ x y=>fX x++fX y
 | .gk _ ps=>ps.flatMap fun p=>fX p.2.2
 | .cd _ _ ps=>ps.flatMap fun p=>fX p.2
 | .call _ xs | .fM _ xs | .gK _ xs | .pa _ xs=>xs.flatMap fX
 | .nY x lo hi | .sl x lo hi=>fX x++xl lo++xl hi
 | .dyn x xs=>fX x++xs.flatMap fX
def Kp.xs:Kp->List X
 | .mv x | .bo x | .bW _ x | .iP _ x | .iQ _ x | .not x | .conv _ x | .len x | .o5 x | .ld x | .dN _ x | .fA _ x | .oP _ x | .oQ _ _ x | .ext _ x | .lR x | .box _ x | .fa _ x | .j8 _ x | .j6 _ x | .nm x | .mR x | .nw _ x | .o9 _ x | .pe _ x | .eW x | .fw x=>[x]
 | .eN _=>[]
 | .fC=>[]
 | .kL j=>[.v j]
 | .dJ _ _ b s=>[.t b,.t s]
 | .pick a b c | .kJ _ a b c=>[a,b,c]
 | .bin _ x y | .shr x y | .mm _ x y | .ox _ x y | .bb _ x y | .oV x y | .eqs _ _ x y | .ae _ _ x y | .st x y | .eJ _ x y | .jX _ x y | .dM x y | .app _ _ x y | .nq _ _ _ x y=>[x,y]
 | .gk _ ps=>ps.map (·.2.2)
 | .cd _ _ ps=>ps.map (·.2)
 | .call _ xs | .fM _ xs | .gK _ xs | .pa _ xs=>xs
 | .nY x lo hi | .sl x lo hi=>x::lo.toList++hi.toList
 | .dyn x xs=>x::xs
def Kp.cP:Kp->Option Nat
 | .bW j _ | .iP j _ | .iQ j _=>some j
 | _=>none
def qP(pre:List Nat)(s:aW):Bool :=
 (match s.k.cP with | some j=>!pre.contains j | none=>true)&&s.k.xs.all (fun x=>match x with | .v j=>!pre.contains j | _=>true)
def Kp.fe:Kp->Bool
 | .bW _ _ | .iP _ _ | .iQ _ _ | .st _ _ | .eJ _ _ _ | .jX _ _ _ | .app _ _ _ _ | .gK _ _ | .dyn _ _ | .bo _ | .dM _ _ | .j8 _ _ | .j6 _ _ | .dJ _ _ _ _ | .kJ _ _ _ _ | .kL _=>true
 | _=>false
def Kp.kr:Kp->Bool
 | .dJ _ _ _ _=>true
 | _=>false
def aW.vN(s:aW):Bool:=s.g.isNone&&match s.k with | .mv (.v _)=>true | _=>false
def eV(o:Oper)(s:aW):Option Nat:=match s.k.cP with
 | some _=>none
 | none=>o.dst
def bD:List Oper->List aW->List (Option Nat)
 | o::l,s::r=>eV o s::bD l r
 | _,_=>[]
def jD(P:Program)(nt:Nat)(ds:List (Option Nat))(tr:List Nat):Nat->List Oper->List aW->Bool
 | _,[],[]=>true
 | n,o::l,s::r=>(match o.dst with | some d=>decide (d<nt) | none=>true) &&
   (match s.k.cP with | some j=>decide (o.dst=tr[j]?)&&decide (j<tr.length)&&s.g.isNone | none=>true) &&
   (match o.guard,s.g with
    | none,none=>true
    | some (j,want),some (i,want')=>j == i&&want == want'&&decide (i<n)&&(match ds[i]? with | some (some _)=>true | _=>false)
    | _,_=>false)&&aQ P ds tr o s.k&&s.k.reads.all (fun i=>decide (i<n))&&jD P nt ds tr (n+1) l r
 | _,_,_=>false
def qE:List (Option Nat)->Bool
 | []=>true
 | none::r=>qE r
 | some d::r=>!(r.contains (some d))&&qE r
def sP:List Nat->Bool
 | []=>true
 | d::r=>!(r.contains d)&&sP r
def qd(tr pre:List Nat):List (Option Nat)->Bool
 | []=>true
 | none::r=>qd tr pre r
 | some d::r=>(tr.zipIdx.all fun p=>!(p.1 == d) || pre.contains p.2)&&qd tr pre r
def tj(ds:List (Option Nat))(tr pre:List Nat):List (Nat×Nat)->Bool
 | []=>true
 | (j,i)::r=>pre.contains j&&(match tr[j]?,ds[i]? with | some t,some (some d)=>t == d | _,_=>false)&&!((r.map (·.1)).contains j)&&tj ds tr pre r
def uH(cl:List Nat)(sl:List aW)(e b:Nat):Bool :=
 sl.zipIdx.all fun q=>decide (q.2=e) || !q.1.k.kr&&!q.1.k.reads.contains b&&(match q.1.g with | some (i,_)=>i != b | none=>true)&&(decide (q.2<=e) || eP cl q.2 e || q.1.vN)
def rY(k:Nat)(cl:List Nat)(sl:List aW):Bool :=
 sl.zipIdx.all fun p=>(p.1.k.reads.all fun i=>eP cl p.2 i)&&(match p.1.g with | some (i,_)=>eP cl p.2 i | none=>true) &&
  (match p.1.k with
   | .dJ _ _ b _=>uH cl sl p.2 b
   | kk=>!kk.fe || ((List.range p.2).all fun i=>decide (i<k) || eP cl p.2 i)&&((List.range sl.length).all fun i=>decide (i<=p.2) || eP cl i p.2))
def iq(ops:List Oper):Bool:=ops.zipIdx.all fun p=>p.1.after.toList.all fun e=>!Region.binds .any e || decide (e.on<p.2)
def AD(vs ds:List Nat):Operand->Bool
 | .tmp t=>vs.contains t || !ds.contains t
 | _=>false
def TM(tr vs ds:List Nat)(o:Oper):Bool :=
 o.guard.isNone&&(match o.dst with | some d=>!tr.contains d | none=>false)&&(match o.op with | .move x=>AD vs ds x | .nilCheck x=>AD vs ds x | .fieldAddr _ x _=>AD vs ds x | _=>false)
def AB(tr ds:List Nat):Nat->List Nat->List Nat->List Oper->List Nat
 | _,_,_,[]=>[]
 | i,vs,is,o::r=>if(TM tr vs ds o&&o.after.toList.all fun e=>!Region.binds .any e || is.contains e.on)=true then i::AB tr ds (i+1) (o.dst.toList++vs) (i::is) r else AB tr ds (i+1) vs is r
def BT:List Oper->List Nat
 | []=>[]
 | o::r=>o.dst.toList++BT r
def vF(tr:List Nat)(ops:Array Oper):List Nat:=AB tr (BT ops.toList) 0 [] [] ops.toList
def vE(tr:List Nat)(ops:Array Oper):List Nat:=vF tr ops++(List.range ops.size).filter fun i=>!(vF tr ops).contains i
def posOf:List Nat->Nat->Nat
 | [],_=>0
 | i::r,j=>if i=j then 0 else posOf r j+1
def fm(ρ:Nat->Nat)(o:Oper):Oper:={ o with after:=o.after.map fun e=>{ e with on:=ρ e.on },guard:=o.guard.map fun g=>(ρ g.1,g.2) }
def fh(l:List Nat)(ops:Array Oper):Array Oper:=(l.map fun i=>fm (posOf l) (ops.getD i default)).toArray
def nG(l:List Nat)(n:Nat):Bool:=decide (l.length=n)&&((List.range n).all fun j=>decide (posOf l j<n)&&decide (l.getD (posOf l j) n=j))&&(List.range n).all fun i=>decide (l.getD i n<n)&&decide (posOf l (l.getD i n)=i)
def ko(n:Nat)(ops:List Oper):Bool:=ops.all fun o=>match o.guard with | some (j,_)=>decide (j<n) | none=>true
def aW.nh(s:aW):Bool:=s.g.isNone&&match s.k with | .mv _ | .lR _ | .fA _ _=>true | _=>false
def qC(draw:Bool)(ops:Array Oper)(l:List aW):Bool:=draw&&!rY 0 (dz [] ops.toList) l
def eO(tr:List Nat)(draw:Bool)(ops:Array Oper)(l:List aW):Array Oper:=if qC draw ops l=true then fh (vE tr ops) ops else ops
def xc(n i:Nat):Array Bool:=((List.range n).map fun j=>decide (j<i)).toArray
def Ei(e:Array Oper)(k:Nat)(l:List aW):Bool:=(l.take k).all aW.nh&&Region.noSelect e&&(List.range k).all fun i=>Region.free .any e (xc e.size i) i
def kH(tr:List Nat)(draw:Bool)(ops:Array Oper)(l:List aW):Nat:=if qC draw ops l=true then(vF tr ops).length else 0
def iV(P:Program)(nt:Nat)(tr:List Nat)(ops:Array Oper)(draw:Bool)(pre:List Nat)(l:List aW)(post:List (Nat×Nat)):Bool :=
 let e:=eO tr draw ops l;let ds:=bD e.toList l
 decide (e.size=l.length)&&jD P nt ds tr 0 e.toList l&&qE ds&&qd tr pre ds&&tj ds tr pre post&&pre.all (fun j=>decide (j<tr.length))&&l.all (qP pre) &&
  (!draw || (P.follows .mixedOrders&&iq e.toList&&rY (kH tr draw ops l) (dz [] e.toList) l)) &&
  (!qC draw ops l || (nG (vE tr ops) ops.size&&ko ops.size ops.toList&&iq ops.toList&&Ei e (kH tr draw ops l) l&&decide (kH tr draw ops l<=l.length)))
def oH(ops:Array Oper):Bool:=ops.toList.all fun o=>o.after.toList.all fun e=>!Region.binds .any e || decide (e.on<ops.size)
def eA(i j:Nat)(ops:Array Oper):Array Oper:=ops.modify j fun o=>{ o with after:=o.after.push ⟨i,.data⟩ }
def qq(P:Program)(nt:Nat)(tr pre:List Nat):RT->Array Oper->Bool
 | .leaf l post,ops=>iV P nt tr ops true pre l post
 | .two i j pm a b,ops=>decide (i≠j)&&decide (i<ops.size)&&decide (j<ops.size)&&oH ops&&ko ops.size ops.toList&&nG pm ops.size&&qq P nt tr pre a (eA i j ops)&&qq P nt tr pre b (fh pm (eA j i ops))
def ck(P:Program)(nt:Nat)(tr:List Nat):Code->C->Bool
 | .skip,.skip=>true
 | .region _ ops draw,.ops pre l post=>iV P nt tr ops draw pre l post
 | .region _ ops draw,.alt pre t=>draw&&iq ops.toList&&qq P nt tr pre t ops
 | .seq (.region _ ops draw) (.cond x a b),.ek pre l post y c d=>iV P nt tr ops draw pre l post&&aB (bD (eO tr draw ops l).toList l) tr x y&&ck P nt tr a c&&ck P nt tr b d
 | .seq (.region _ ops draw) (.seq (.cond x a b) r),.tc pre l post y c d e=>iV P nt tr ops draw pre l post&&aB (bD (eO tr draw ops l).toList l) tr x y&&ck P nt tr a c&&ck P nt tr b d&&ck P nt tr r e
 | .seq a b,.seq c d=>ck P nt tr a c&&ck P nt tr b d
 | .cond x a b,.cond y c d=>aB [] tr x y&&ck P nt tr a c&&ck P nt tr b d
 | .block i a,.block j c=>i == j&&ck P nt tr a c
 | .loop a,.loop c=>ck P nt tr a c
 | .exit i,.exit j=>i == j
 | .ret,.ret=>true
 | _,_=>false
def jQ(nt:Nat)(tr:List Nat):Bool:=sP tr&&tr.all (fun t=>decide (t<nt))&&decide (tr.length<500)
end Go.D3
namespace Go.D3
open Go
theorem B0:∀{l r:List UInt8},mU l r=true->l=r
 | [],[],_=>rfl
 | [],_::_,h=>by simp[mU] at h
 | _::_,[],h=>by simp[mU] at h
 | a::l,b::r,h=>by
  simp[mU] at h;rw[h.1,B0 h.2]
theorem vc(s:ByteArray):s=⟨s.data.toList.toArray⟩:=by cases s;simp
section
variable{P:Program}{o:Oper}{w:World}{A:Nat->Prop}{ct:Nat->D}{vl:Nat->Value}{a:Act}{v:Value}
theorem dO{k:IntKind}{n:Int}(h:Pl w A (aa w ct vl) v (.int k n)):v=.int k n/\k.has n:=by
 cases h with
 | rd h=>cases h with | int h=>exact⟨rfl,h⟩
 | ref h=>exact h.elim
theorem pl_bool{b:Bool}(h:Pl w A (aa w ct vl) v (.bool b)):v=.bool b:=by
 cases h with
 | rd h=>cases h;rfl
 | ref h=>exact h.elim
theorem fE{l:List UInt8}(h:Pl w A (aa w ct vl) v (.str l)):v=.string ⟨l.toArray⟩/\l.length<=maxLen:=by
 cases h with
 | rd h=>cases h with | str h=>exact⟨rfl,h⟩
 | ref h=>exact h.elim
theorem kQ{l:List D}(h:Pl w A (aa w ct vl) v (.agg l)):∃cs:Array Value,v=.agg cs/\cs.size=l.length/\∀j x,l[j]?=some x->Pl w A (aa w ct vl) (cs.getD j undef) x:=by
 cases h with
 | rd h=>cases h with | agg hs hr=>exact⟨_,rfl,hs,fun j x hx=>.rd (hr j x hx)⟩
 | ref h=>exact h.elim
 | agg hs hr=>exact⟨_,rfl,hs,hr⟩
theorem PM{l:List D}(h:Pl w A (aa w ct vl) v (.af l)):∃cs:Array Value,v=.tuple cs/\cs.size=l.length/\∀j x,l[j]?=some x->Pl w A (aa w ct vl) (cs.getD j undef) x:=by
 cases h with
 | rd h=>cases h with | af hs hr=>exact⟨_,rfl,hs,fun j x hx=>.rd (hr j x hx)⟩
 | ref h=>exact h.elim
 | af hs hr=>exact⟨_,rfl,hs,hr⟩
theorem pt{l:List D}(h:Pl w A (aa w ct vl) v (.ptr l)):∃b off,v=.pointer (some ⟨b,off,none⟩)/\A b/\∀j x,l[j]?=some x->∃u,w.cell? ⟨b,off+j,none⟩=some u/\Rd w A u x:=by
 cases h with
 | rd h=>cases h with | ptr hA vs hc hr=>exact⟨_,_,rfl,hA,fun j x hx=>⟨vs j,hc j x hx,hr j x hx⟩⟩
 | ref h=>exact h.elim
theorem bM{d:D}(h:Pl w A (aa w ct vl) v d)(hd:∀k p,d≠.sub k p)(ha:∀k p,d≠.ay k p)(hf:∀f c,d≠.fn f c)(hg:∀l,d≠.agg l)(ht:∀l,d≠.af l)(hp:∀k p n,d≠.pre k p n:=by simp):Rd w A v d:=by
 cases h with
 | rd h=>exact h
 | @ref v d h=>cases d<;>first | exact h.elim | exact absurd rfl (hd _ _) | exact absurd rfl (ha _ _) | exact absurd rfl (hf _ _) | exact absurd rfl (hp _ _ _)
 | agg=>exact absurd rfl (hg _)
 | af=>exact absurd rfl (ht _)
 | fn=>exact absurd rfl (hf _ _)
theorem nH{z:D}{L:List D}(h:Pl w A (aa w ct vl) v (.slice z L)):Rd w A v (.slice z L) :=
 bM h (by simp) (by simp) (by simp) (by simp) (by simp)
theorem di{k:Nat}{p:Path}(h:Pl w A (aa w ct vl) v (.sub k p)):aa w ct vl v (.sub k p):=by
 cases h with
 | rd h=>cases h
 | ref h=>exact h
theorem fj{k:Nat}{p:Path}(h:Pl w A (aa w ct vl) v (.ay k p)):mC w ct vl v k p:=by
 cases h with
 | rd h=>cases h
 | ref h=>exact h
theorem l6{f:FuncId}{caps:List D}(h:Pl w A (aa w ct vl) v (.fn f caps)):∃cs:Array Value,v=.func (.func f) #[] cs/\cs.size=caps.length/\∀j x,caps[j]?=some x->Pl w A (aa w ct vl) (cs.getD j undef) x:=by
 cases h with
 | rd h=>cases h with | fn hs hr=>exact⟨_,rfl,hs,fun j x hx=>.rd (hr j x hx)⟩
 | ref h=>exact h.elim
 | fn hs hr=>exact⟨_,rfl,hs,hr⟩
theorem xj{z:D}{L:List D}(h:Rd w A v (.slice z L)):∃p cap,v=.slice p L.length cap/\L.length<=cap/\cap<=maxLen /\
  (L≠[]->∃b off,p=some ⟨b,off,none⟩/\A b/\0<z.cells.length/\(∀x∈L,x.cells.length=z.cells.length)/\∀j x,cellAt L z.cells.length j=some x->∃u,w.cell? ⟨b,off+j,none⟩=some u/\Rd w A u x):=by
 cases h with
 | nil=>exact⟨none,0,rfl,Nat.le_refl _,Nat.zero_le _,fun h=>absurd rfl h⟩
 | empty hm=>exact⟨_,_,rfl,Nat.zero_le _,hm,fun h=>absurd rfl h⟩
 | slice hA hc hm hz hzz hsz vs hcells hr =>
  subst hzz;exact⟨_,_,rfl,hc,hm,fun _=>⟨_,_,rfl,hA,hz,hsz,fun j x hx=>⟨vs j,hcells j x hx,hr j x hx⟩⟩⟩
theorem qT{z:D}{L:List D}{F:Nat->Prop}(h:aj w A v (.slice z L) F):∃p cap,v=.slice p L.length cap/\L.length<=cap/\cap<=maxLen/\(L≠[]->∃b off,p=some ⟨b,off,none⟩):=by
 cases h with
 | nil=>exact⟨none,0,rfl,Nat.le_refl _,Nat.zero_le _,fun h=>absurd rfl h⟩
 | slice Fs hb hroom hc hm hz hzz hsz hr hF hfs hdis=>exact⟨_,_,rfl,hc,hm,fun _=>⟨_,_,rfl⟩⟩
theorem mz{w:World}{A:Nat->Prop}{x:D}(h:Pl w A (aa w ct vl) v x){l:List D}(hl:x.cellsOf=some l):v.cells.size=l.length/\∀j c,l[j]?=some c->Pl w A (aa w ct vl) (v.cells.getD j undef) c:=by
 have one:(v.cells=#[v])->l=[x]->v.cells.size=l.length/\∀j c,l[j]?=some c->Pl w A (aa w ct vl) (v.cells.getD j undef) c:=by
  rintro h1 rfl;refine⟨by simp[h1],fun j c hc=>?_⟩;cases j with
  | zero=>simp at hc;subst hc;simpa[h1] using h
  | succ j=>simp at hc
 have rdc:∀{v:Value}{d:D},Rd w A v d->(∀l,d≠.agg l)->d≠.dead->(∀y,d≠.o y)->(∀y,d≠.vw y)->v.cells=#[v]:=by
  intro v d h h1 h2 h3 h4;cases h<;>first | rfl | exact absurd rfl (h1 _) | exact absurd rfl h2 | exact absurd rfl (h3 _) | exact absurd rfl (h4 _)
 cases x<;>simp only[D.cellsOf,Option.some.injEq,reduceCtorEq] at hl
 case agg l' =>
  subst hl;obtain⟨cs,rfl,h1,h2⟩:=kQ h;exact⟨h1,h2⟩
 case pre k p n =>
  refine one ?_ hl.symm;cases h with
  | rd h=>cases h
  | ref h=>obtain⟨q,m,c,_,_,rfl⟩:=h;rfl
 all_goals
  refine one ?_ hl.symm
 case sub k p=>obtain⟨_,_,⟨q,n,c,rfl⟩ | ⟨r,rfl⟩⟩:=di h<;>rfl
 case ay k p=>obtain⟨_,_,_,rfl⟩:=fj h;rfl
 case fn f caps=>obtain⟨cs,rfl,_⟩:=l6 h;rfl
 all_goals exact rdc (bM h (by simp) (by simp) (by simp) (by simp) (by simp)) (by simp) (by simp) (by simp) (by simp)
end
end Go.D3
