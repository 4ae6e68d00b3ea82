/- WHAT A READING SAYS OF A VALUE; struct literals, comparisons of structs, slices of views, function values. Generic. -/
import Derived.Test.YtpnchponfnbmiaaGreatDoorHA
import Derived.Attr
import Derived.Laws.Entries
import Derived.Laws.Tables
import Derived.Laws.MakeOwn
import Derived.Laws.Cells
import Derived.Laws.StructEq
import Derived.Orders
namespace Go.D3
open Go
structure St where
 env:List D
 n:Nat
 tmp:List D
def nth:List D->Nat->D
 | [],_=>.dead
 | a::_,0=>a
 | _::l,i+1=>nth l i
def ek:List D->Nat->D->List D
 | [],_,_=>[]
 | _::l,0,x=>x::l
 | a::l,i+1,x=>a::ek l i x
def St.cont(st:St)(k:Nat):D:=if k<1000 then nth st.env k else if k<1000+st.n then nth st.tmp (999+st.n-k) else .dead
def St.put(st:St)(k:Nat)(c:D):St:=if k<1000 then⟨ek st.env k c,st.n,st.tmp⟩ else if k<1000+st.n then⟨st.env,st.n,ek st.tmp (999+st.n-k) c⟩ else st
def St.push(st:St)(c:D):St:=⟨st.env,st.n+1,c::st.tmp⟩
def St.kill(st:St)(q:D->Bool):St:=⟨dE q st.env,st.n,dE q st.tmp⟩
def St.rd(st:St):X->D
 | .t i=>b6 (1000+i) (st.cont (1000+i))
 | .v j=>b6 j (st.cont j)
 | .i n=>.int .i64 n
 | .k d=>d
 | .g n=>(gl n).getD .dead
def aQ(k:Nat):D->Bool
 | .sub j _=>j == k
 | .az j _=>j == k
 | _=>false
def eP:D->Bool
 | .sub j _=>decide (1000<=j)
 | .az j _=>decide (1000<=j)
 | _=>false
def D.hole(c:D)(p:Path):D:=c.setAt p (dZ c p)
def D.o?:D->Option D
 | .o x=>some x
 | _=>none
def D.bR:D->Bool
 | .int _ _ | .bool _ | .str _=>true
 | _=>false
def iy:List D->Bool
 | []=>true
 | x::r=>x.bR&&iy r
def dF(f:D->Option D):List D->Option (List D)
 | []=>some []
 | x::r=>(f x).bind fun y=>(dF f r).bind fun l=>some (y::l)
def D.eD:D->Option D
 | .int k n=>some (.int k n)
 | .bool b=>some (.bool b)
 | .str s=>some (.str s)
 | .aP=>some .aP
 | .slice z l=>some (.vw (.slice z l))
 | .ptr l=>some (.vw (.ptr l))
 | .aF z=>some (.slice z [])
 | _=>none
def D.pR:D->Option D
 | .agg l=>(dF D.eD l).bind fun l'=>some (.agg l')
 | x=>x.eD
def D.sd:D->Option D
 | .o x=>some x
 | c=>c.eD
def D.iz:D->Option D
 | .o x=>some x
 | .row z l=>(dF D.pR l).bind fun l'=>some (.slice z l')
 | .box l=>(dF D.sd l).bind fun l'=>some (.ptr l')
 | _=>none
def cA{α:Type}(x:Option α)(K:α->Prop):Prop :=
 match x with
 | some a=>K a
 | none=>False
def dL(k:Nat)(p:Path)(K:D->St->Prop)(st:St):Prop :=
 match p with
 | []=>cA (st.cont k).iz fun x=>K x ((st.kill (aQ k)).put k .dead)
 | s::p=>K ((st.cont k).a8 (s::p)) ((st.kill (bB k (s::p))).put k (((st.kill (bB k (s::p))).cont k).hole (s::p)))
def lP(k:Nat)(p:Path):D->Prop
 | .sub j q=>j≠k\/apart p q=true
 | .az j q=>j≠k\/apart p q=true
 | _=>True
def mN(r:List D):D->Prop
 | .sub k p=>bE (lP k p) r
 | _=>True
mutual
def aw:D->(D->St->Prop)->St->Prop
 | .int k n,K,st=>K (.int k n) st
 | .bool b,K,st=>K (.bool b) st
 | .str s,K,st=>K (.str s) st
 | .aP,K,st=>K .aP st
 | .fn f [],K,st=>K (.fn f []) st
 | .fn f (c::r),K,st=>(D.fn f (c::r)).refs (fun _=>False)/\K (.vw (.fn f (c::r))) st
 | .sub k p,K,st=>dL k p K st
 | .agg l,K,st=>bP l (fun l' st=>K (.agg l') st) st
 | .slice z l,K,st=>K (.vw (.slice z l)) st
 | .ptr l,K,st=>K (.vw (.ptr l)) st
 | .aF z,K,st=>K (.slice z []) st
 | .bD,K,st=>K .bD st
 | .bj,K,st=>K .bj st
 | .bp t x,K,st=>K (.bp t x) st
 | _,_,_=>False
def bP:List D->(List D->St->Prop)->St->Prop
 | [],K,st=>K [] st
 | x::r,K,st=>x.refs (mN r)/\aw x (fun x' st=>bP r (fun r' st=>K (x'::r') st) st) st
end
theorem Vs{k:Nat}{p:Path}{K K':D->St->Prop}(hK:∀x st,K x st->K' x st){st:St}(h:dL k p K st):dL k p K' st:=by
 cases p with
 | nil =>
  simp only[dL] at h|-
  cases hc:(st.cont k).iz with
  | none=>rw[hc] at h;exact h.elim
  | some x=>rw[hc] at h;exact hK _ _ h
 | cons s p=>simp only[dL] at h|-;exact hK _ _ h
mutual
theorem Kl:∀(d:D){K K':D->St->Prop}(_:∀x st,K x st->K' x st){st:St},aw d K st->aw d K' st
 | .int _ _,K,K',hK,st,h=>by simp only[aw] at h|-;exact hK _ _ h
 | .bool _,K,K',hK,st,h=>by simp only[aw] at h|-;exact hK _ _ h
 | .str _,K,K',hK,st,h=>by simp only[aw] at h|-;exact hK _ _ h
 | .aP,K,K',hK,st,h=>by simp only[aw] at h|-;exact hK _ _ h
 | .fn _ [],K,K',hK,st,h=>by simp only[aw] at h|-;exact hK _ _ h
 | .slice _ _,K,K',hK,st,h=>by simp only[aw] at h|-;exact hK _ _ h
 | .ptr _,K,K',hK,st,h=>by simp only[aw] at h|-;exact hK _ _ h
 | .aF _,K,K',hK,st,h=>by simp only[aw] at h|-;exact hK _ _ h
 | .bD,K,K',hK,st,h=>by simp only[aw] at h|-;exact hK _ _ h
 | .bj,K,K',hK,st,h=>by simp only[aw] at h|-;exact hK _ _ h
 | .bp _ _,K,K',hK,st,h=>by simp only[aw] at h|-;exact hK _ _ h
 | .mp _ _,K,K',hK,st,h=>by simp only[aw] at h
 | .bK _ _,K,K',hK,st,h=>by simp only[aw] at h
 | .fE _,K,K',hK,st,h=>by simp only[aw] at h
 | .pre _ _ _,K,K',hK,st,h=>by simp only[aw] at h
 | .sub k p,K,K',hK,st,h=>by simp only[aw] at h|-;exact Vs hK h
 | .agg l,K,K',hK,st,h=>by simp only[aw] at h|-;exact qE l (fun _ _ h=>hK _ _ h) h
 | .fn _ (_::_),K,K',hK,st,h=>by simp only[aw] at h|-;exact⟨h.1,hK _ _ h.2⟩
 | .ah _,K,K',hK,st,h=>by simp only[aw] at h
 | .vw _,K,K',hK,st,h=>by simp only[aw] at h
 | .o _,K,K',hK,st,h=>by simp only[aw] at h
 | .box _,K,K',hK,st,h=>by simp only[aw] at h
 | .row _ _,K,K',hK,st,h=>by simp only[aw] at h
 | .az _ _,K,K',hK,st,h=>by simp only[aw] at h
 | .when _ _,K,K',hK,st,h=>by simp only[aw] at h
 | .dead,K,K',hK,st,h=>by simp only[aw] at h
theorem qE:∀(l:List D){K K':List D->St->Prop}(_:∀x st,K x st->K' x st){st:St},bP l K st->bP l K' st
 | [],K,K',hK,st,h=>by simp only[bP] at h|-;exact hK _ _ h
 | x::r,K,K',hK,st,h=>by simp only[bP] at h|-;exact⟨h.1,Kl x (fun _ _ h=>qE r (fun _ _ h=>hK _ _ h) h) h.2⟩
end
def aM:D->D
 | .vw (.slice z l)=>.slice z l
 | .vw (.ptr l)=>.ptr l
 | .vw (.agg l)=>.agg l
 | .vw (.fn f l)=>.fn f l
 | .vw (.mp ks vs)=>.mp ks vs
 | .vw (.ah l)=>.ah l
 | .vw _=>.dead
 | .int k n=>.int k n
 | .bool b=>.bool b
 | .str s=>.str s
 | .aP=>.aP
 | .fn f l=>.fn f l
 | .dead=>.dead
 | .bD=>.bD
 | .bj=>.bj
 | .bp t x=>.bp t x
 | d=>.o d
def qo(z:D):List D->Bool
 | []=>true
 | x::r=>decide (x.cells.length=z.cells.length)&&qo z r
def D.pW:D->Nat->Option D
 | .o (.ptr l),n=>some (.ptr (l.drop n))
 | _,_=>none
def aV(ob:Nat->D):Nat->D->Option D
 | 0,_=>none
 | n+1,d=>match d with
  | .sub k p=>(lk ob k).bind fun c=>match c with
   | .row z l=>(dF (aV ob n) l).bind fun l'=>if qo z l'=true then some (.slice z l') else none
   | c=>if(c.a8 p).isAgg=true then none else some (c.a8 p)
  | .pre k p m=>(lk ob k).bind fun c=>match c with
   | .row _ _=>none
   | c=>match c.a8 p with
    | .slice z l=>some (.slice z (l.take m))
    | _=>none
  | .az k p=>(lk ob k).bind fun c=>match c,p with
   | .box l,[(_,off)]=>(dF (aV ob n) l).bind fun l'=>some (.ptr (l'.drop off))
   | .o (.ptr l),[(_,off)]=>some (.ptr (l.drop off))
   | .box l,[(_,off),(_,o2)]=>(l.getD off .dead).pW o2
   | _,_=>none
  | .agg l=>(dF (aV ob n) l).bind fun l'=>some (.agg l')
  | .o x=>some x
  | .aF z=>some (.slice z [])
  | .ah _=>none
  | .dead=>none
  | .when _ _=>none
  | .box _=>none
  | .row _ _=>none
  | .fn f l=>(dF (aV ob n) l).bind fun l'=>some (.fn f l')
  | x=>some x
def gJ(ob:Nat->D)(rd:X->D):List X->Option (List D)
 | []=>some []
 | x::r=>(aV ob 4 (rd x).core).bind fun y=>(gJ ob rd r).bind fun l=>some (y::l)
def db(rd:X->D):List X->Bool
 | []=>true
 | x::r=>(rd x).gate&&db rd r
mutual
def D.ba:D->Bool
 | .vw _=>false
 | .bp _ _=>false
 | .slice _ l=>dH l
 | .agg l=>dH l
 | .ah l=>dH l
 | .ptr l=>dH l
 | _=>true
def dH:List D->Bool
 | []=>true
 | x::r=>x.ba&&dH r
end
def c8:D->Prop:=fun _=>False
def jF(rd:X->D):List X->Prop
 | []=>True
 | x::r=>(rd x).core.refs c8/\jF rd r
def kj(g:Option Bool)(p:Prop):Prop :=
 match g with
 | none=>p
 | some b=>b=true->p
def oN(g:Option Bool)(v:D):D :=
 match g with
 | none=>v
 | some b=>.when b v
def D.ca:D->Bool
 | .o _ | .box _ | .row _ _ | .when _ _=>false
 | _=>true
def gw(r:Option PR)(g:Option Bool)(K:St->Prop)(st:St):Prop :=
 match r with
 | none=>g=some false/\K (st.push (.when false (.bool false)))
 | some (side,res)=>kj g side/\res.ca=true/\K (st.push (oN g res))
def eN(r:Option PR)(g:Option Bool)(K:St->Prop)(st:St):Prop :=
 match g,r with
 | none,some (side,c)=>side/\K (st.push c)
 | _,_=>False
def D.fb:D->Option D
 | .int k n=>some (.int k n)
 | .bool b=>some (.bool b)
 | .str s=>some (.str s)
 | .aP=>some .aP
 | .slice z l=>some (.slice z l)
 | .ptr l=>some (.ptr l)
 | .aF z=>some (.slice z [])
 | .fn f []=>some (.fn f [])
 | .mp ks vs=>some (.mp ks vs)
 | .bD=>some .bD
 | .bj=>some .bj
 | .bp t x=>some (.bp t x)
 | _=>none
def oc:List D->Bool
 | []=>true
 | x::r=>x.pc&&oc r
def vS(n:Nat)(x:D):Option PR:=x.core.cellsOf.bind fun l=>some ((x.gate=true/\0<n/\oc l=true)/\l.length=n,.box l)
def vU(n:Nat)(x:D):Option PR:=x.core.cellsOf.bind fun l=>(dF D.fb l).bind fun l'=>some (x.gate=true/\l.length=n,.ptr l')
def xp(z:D)(bytes:Nat)(l c:D):Option PR :=
 l.core.int?.bind fun a=>c.core.int?.bind fun b=>some ((l.gate=true/\c.gate=true)/\0<=a/\a<=b/\bytes*b<=281474976710656,.o (.slice z (List.replicate a.toNat z)))
def l6(rd:X->D)(sz:Nat):List D->List (Nat×X)->Option (Bool×List D)
 | es,[]=>some (true,es)
 | es,(i,x)::r=>(rd x).core.cellsOf.bind fun l =>
  if l.length=sz/\i<es.length/\oc l=true then(l6 rd sz (ek es i (rd x).core) r).bind fun p=>some ((rd x).gate&&p.1,p.2) else none
def four:List D->Bool
 | []=>false
 | [_]=>false
 | [_,_]=>false
 | [_,_,_]=>false
 | _::_::_::_::_=>true
def yZ:Bool->D->List D->D
 | true,z,l=>.o (.slice z l)
 | false,z,l=>.row z l
def qL(rd:X->D)(z:D)(n:Nat)(parts:List (Nat×X)):Option PR :=
 match n,parts with
 | 0,[]=>some (True,.o (.slice z []))
 | 0,_=>none
 | n+1,parts=>(l6 rd z.cells.length (List.replicate (n+1) z) parts).bind fun p=>some (p.1=true,yZ (four p.2&&iy p.2) z p.2)
def yY(x:D):Option PR:=x.core.mW.bind fun s=>some (x.gate=true,.o (.bK s 0))
def wi(x:D):Option PR:=x.core.mW.bind fun s=>some (x.gate=true/\s.length<=140737488355328,.o (qP s))
def bN(k:Kp)(rd:X->D):Option PR :=
 match k with
 | .fL x=>wi (rd x)
 | .box n x=>vS n (rd x)
 | .fo n x=>vU n (rd x)
 | .eV zs=>some (zs≠[],.box zs)
 | .ae z bytes l c=>xp z bytes (rd l) (rd c)
 | .cn z n parts=>qL rd z n parts
 | .fQ=>some (True,.o (.mp [] []))
 | .ff x=>yY (rd x)
 | _=>none
def eu(P:Program)(f:FuncId):Bool:=match P.funcs[f]? with
 | some fn=>fn.body.isSome&&!(fn.name == "runtime.NumGoroutine")
 | none=>false
def bY[Mode](P:Program)(f:FuncId)(as gs:List D)(Q:D->List D->Prop):Prop :=
 eu P f=true/\∀(w:World)(A:Nat->Prop)(vs:Array Value)(gv:Nat->Value)(Fs:Nat->Nat->Prop),eT w A->(∀b,A b->b<w.heap.size)->vs.size=as.length ->
  (∀(j:Nat)(a:D),as[j]?=some a->Pl w A (aa w (nth gs) gv) (vs.getD j undef) a) ->
  (∀k,aG w A (aa w (nth gs) gv) (gv k) (Fs k) (nth gs k))->(∀k,(nth gs k).isObj=false->∀b,¬Fs k b) ->
  (∀i j b,i≠j->Fs i b->¬Fs j b)->(∀k b,Fs k b->b<w.heap.size/\¬A b) ->
  Calls P f vs w fun e w'=>∃(rc:D)(gs':List D)(v:Value)(F:Nat->Prop)(gv':Nat->Value)(Fs':Nat->Nat->Prop),Q rc gs'/\e=.returned v/\w.heap.size<=w'.heap.size /\
   aG w' (fun b=>A b\/(w.heap.size<=b/\b<w'.heap.size/\¬F b/\∀j,¬Fs' j b)) (aa w' (nth gs') gv') v F rc/\(rc.isObj=false->∀b,¬F b) /\
   (∀k,aG w' (fun b=>A b\/(w.heap.size<=b/\b<w'.heap.size/\¬F b/\∀j,¬Fs' j b)) (aa w' (nth gs') gv') (gv' k) (Fs' k) (nth gs' k))/\(∀k,(nth gs' k).isObj=false->∀b,¬Fs' k b) /\
   (∀k,nth gs k≠.dead->gv' k=gv k) /\
   (∀b,F b->b<w'.heap.size/\(w.heap.size<=b\/∃j,Fs j b)/\∀j,¬Fs' j b)/\(∀j b,Fs' j b->b<w'.heap.size/\(w.heap.size<=b\/∃j,Fs j b))/\(∀i j b,i≠j->Fs' i b->¬Fs' j b) /\
   (∀b,b<w.heap.size->(∀j,¬Fs j b)->w'.heap[b]?=w.heap[b]?)/\w'.os=w.os/\w'.tape=w.tape/\cF w w'
def je[Mode](P:Program)(f:FuncId)(as gs:List D)(rc:D)(gs':List D):Prop:=bY P f as gs fun r g=>r=rc/\g=gs'
theorem bY.imp[Mode]{P:Program}{f:FuncId}{as gs:List D}{Q Q':D->List D->Prop}(h:bY P f as gs Q)(hQ:∀r g,Q r g->Q' r g):bY P f as gs Q' :=
 ⟨h.1,fun w A vs gv Fs h0 h1 h2 h3 h4 h5 h6 h7=>(h.2 w A vs gv Fs h0 h1 h2 h3 h4 h5 h6 h7).mono fun _ _ ⟨rc,gs',v,F,gv',Fs',q,r⟩=>⟨rc,gs',v,F,gv',Fs',hQ _ _ q,r⟩⟩
def BR[Mode](P:Program)(f:FuncId)(as gs:List D)(rc:D):Prop :=
 eu P f=true/\∀(w:World)(A:Nat->Prop)(vs:Array Value)(gv:Nat->Value)(Fs:Nat->Nat->Prop),eT w A->(∀b,A b->b<w.heap.size)->vs.size=as.length ->
  (∀(j:Nat)(a:D),as[j]?=some a->Pl w A (aa w (nth gs) gv) (vs.getD j undef) a) ->
  (∀k,aG w A (aa w (nth gs) gv) (gv k) (Fs k) (nth gs k))->(∀k,(nth gs k).isObj=false->∀b,¬Fs k b) ->
  (∀i j b,i≠j->Fs i b->¬Fs j b)->(∀k b,Fs k b->b<w.heap.size/\¬A b) ->
  Calls P f vs w fun e w'=>∃v:Value,e=.returned v/\w.heap.size<=w'.heap.size/\(∀b,b<w.heap.size->w'.heap[b]?=w.heap[b]?) /\
   Pl w' (fun b=>A b\/(w.heap.size<=b/\b<w'.heap.size)) (aa w (nth gs) gv) v rc/\w'.os=w.os/\w'.tape=w.tape/\cF w w'
mutual
def D.tight:D->Bool
 | .int _ _=>true
 | .bool _=>true
 | .str _=>true
 | .aP=>true
 | .aF _=>true
 | .dead=>true
 | .sub _ _=>true
 | .az _ _=>true
 | .fn _ l=>kq l
 | .agg l=>kq l
 | .ah l=>kq l
 | _=>false
def kq:List D->Bool
 | []=>true
 | x::r=>x.tight&&kq r
end
def D.qp:D->Bool
 | .o x=>x.ba
 | c=>c.tight
def qq:List D->Bool
 | []=>true
 | x::r=>x.qp&&qq r
def D.gA:D->Bool
 | .box l=>qq l
 | .row _ l=>kq l
 | c=>c.qp
def jd:List D->Bool
 | []=>true
 | x::r=>x.gA&&jd r
class KH where
 k:St->Prop
def D.Db:D->D
 | .vw d=>d
 | d=>d
def D.wx:D->D
 | .agg l=>.agg (l.map D.Db)
 | d=>d
theorem Sk{w:World}{A:Nat->Prop}{v:Value}{d:D}(h:Rd w A v d):Rd w A v d.Db:=by
 cases d<;>first | exact h | (cases h;assumption)
theorem Sm{w:World}{A:Nat->Prop}{v:Value}{d:D}(h:Rd w A v d):Rd w A v d.wx:=by
 cases d with
 | agg l =>
  cases h with
  | agg hs hr =>
   refine .agg (by rw[List.length_map];exact hs) fun j x hx=>?_
   rw[List.getElem?_map,Option.map_eq_some_iff] at hx;obtain⟨y,hy,rfl⟩:=hx;exact Sk (hr j y hy)
 | _=>exact h
def vV(g:Option Bool)(res c:D):Prop :=
 match g with
 | none=>c=aM res\/c=aM (.vw res)
 | some b=>c=.when b res\/c=.when b res.wx
def jS[Mode](P:Program)(f:FuncId)(ds:Option (List D))(gt:Bool)(pl:Prop)(g:Option Bool)[K:KH](st:St):Prop :=
 ∃l res c,ds=some l/\kj g (gt=true/\al P f (l.map .v) res/\(res.ba=true\/pl))/\vV g res c/\K.k (st.push c)
def D.wL(c:D)(p:Path)(y:D):D:=c.setAt p (if bc c p=true then .o y else y)
def pf(x:D)(r:List D)(y:D)(K:St->Prop)(st:St):Prop :=
 match x with
 | .sub k (s::p)=>y.isAgg=false/\bE (fun d=>bB k (s::p) d=false) r/\K ((st.kill (bB k (s::p))).put k (((st.kill (bB k (s::p))).cont k).wL (s::p) y))
 | _=>K st
def eL:List D->List D->(St->Prop)->St->Prop
 | [],[],K,st=>K st
 | x::r,y::ys,K,st=>pf x r y (eL r ys K) st
 | _,_,_,_=>False
def ju[Mode](P:Program)(f:FuncId)(d:D)(ds:Option (List D))(gt:Bool)(pl:Prop)(g:Option Bool)[K:KH](st:St):Prop :=
 g=none/\gt=true/\pl/\∃dl,ds=some dl/\match d with
  | .az k [(0,0)]=>∃l l' res,st.cont k=.box l/\bE c8 l/\bE c8 l'/\l'.length=l.length/\al P f (.io (.box l) (.box l')::dl.map .v) res/\K.k (((st.kill (bd k [(0,0)])).put k (.box l')).push (aM res))
  | .sub k []=>∃x y res,st.cont k=.o x/\al P f (.io (.o x) (.o y)::dl.map .v) res/\K.k (((st.kill (bB k [])).put k (.o y)).push (aM res))
  | .sub k (s::p)=>bP [.sub k (s::p)] (fun l st=>∃x y res,l=[x]/\al P f (.io (.o x) (.o y)::dl.map .v) res/\eL [.sub k (s::p)] [y] (fun st=>K.k (st.push (aM res))) st) st
  | .agg l=>bP l (fun xs st=>∃ys res,al P f (.io (.o (.agg xs)) (.o (.agg ys))::dl.map .v) res/\eL l ys (fun st=>K.k (st.push (aM res))) st) st
  | _=>False
def sg(n:Nat)(js:List Nat)(i:Nat):Nat:=(js[i]?).getD (1000+n+i)
def iQ(st:St)(σ:Nat->Nat):List Nat->List D->Prop
 | [],[]=>True
 | j::js,g::gs=>st.cont j=g.an σ/\iQ st σ js gs
 | _,_=>False
def iG(st:St)(σ:Nat->Nat)(js:List Nat)(tg:Bool):List D->List D->Prop
 | [],[]=>True
 | d::ds,a::as=>(d=a.an σ\/(tg=true/\aV (fun k=>if js.contains k=true then .dead else st.cont k) 4 d=some a))/\iG st σ js tg ds as
 | _,_=>False
def uT:D->D->Bool
 | .o _,.o _=>true
 | _,_=>false
def uS:D->D->Bool
 | .box l,.box l'=>l.length == l'.length
 | _,_=>false
def oh(j:Nat)(g h:D):D->Bool
 | .sub k p=>k == j&&!(p.isEmpty&&uT g h)
 | .az k p=>k == j&&!(p.length == 1&&uS g h)
 | _=>false
def qG:List Nat->List D->List D->D->Bool
 | j::js,g::gs,h::hs,d=>oh j g h d || qG js gs hs d
 | _,_,_,_=>false
def fc(σ:Nat->Nat)(st:St):List Nat->List D->St
 | j::js,h::hs=>fc σ (st.put j (h.an σ)) js hs
 | _,_=>st
def iT:List D->List D->Prop
 | [],[]=>True
 | g::gs,h::hs=>(g=.dead->h=.dead)/\iT gs hs
 | _,_=>False
def DF[Mode](P:Program)(f:FuncId)(ds:List D)(st:St)(K:D->St->Prop):Prop :=
 ∃(js:List Nat)(tg:Bool)(as gs:List D)(Q:D->List D->Prop),bY P f as gs Q/\(js.Nodup/\js.all (fun j=>decide (j<1000+st.n))=true)/\iQ st (sg st.n js) js gs/\iG st (sg st.n js) js tg ds as /\
  ∀rc gs',Q rc gs'->iT gs gs'/\(tg=true->rc.gA=true/\jd gs'=true)/\K (rc.an (sg st.n js)) (fc (sg st.n js) (st.kill (qG js gs gs')) js gs')
def RA[Mode](P:Program)(f:FuncId)(ds:List D)(st:St)(K:D->Prop):Prop :=
 ∃l res,dF (aV st.cont 4) ds=some l/\eu P f=true/\al P f ((stripL l).map .v) res/\res.ba=true/\K (aM res)
def jX[Mode](P:Program)(f:FuncId)(ds:List D)(gt:Bool)(gd:Bool)[K:KH](st:St):Prop :=
 gt=true/\((DF P f ds st fun c st=>(gd=true->c.ca=true)/\K.k (st.push (if gd=true then .when true c else c)))\/(gd=false/\RA P f ds st fun c=>K.k (st.push c)))
def jU[Mode](P:Program)(x:D)(ds:List D)(gt:Bool)(gd:Bool)[KH](st:St):Prop :=
 match x with
 | .fn f caps=>jX P f (ds++caps) gt gd st
 | _=>False
def iJ[Mode](P:Program)(x:D)(ds:List D)(gt:Bool)(g:Option Bool)[K:KH](st:St):Prop :=
 match g with
 | none=>jU P x ds gt false st
 | some true=>jU P x ds gt true st
 | some false=>K.k (st.push (.when false (.bool false)))
theorem WQ[Mode]{P:Program}{x:D}{ds:List D}{gt:Bool}{b:Bool}{K:KH}{st:St}(ht:b=true->jU P x ds gt true st)(hf:b=false->K.k (st.push (.when false (.bool false)))):iJ P x ds gt (some b) st:=by
 cases b
 ·exact hf rfl
 ·exact ht rfl
def ei(rd:X->D):List X->List D
 | []=>[]
 | x::r=>(rd x).core::ei rd r
theorem RB[Mode]{P:Program}{f:FuncId}{ds l xs:List D}{K:St->Prop}{st:St}{res:D}(hl:dF (aV st.cont 4) ds=some l)(hx:stripL l=xs)(hb:eu P f=true)(hR:al P f (xs.map .v) res)(hn:res.ba=true)(hK:K (st.push (aM res))):@jX _ P f ds true false ⟨K⟩ st :=
 ⟨rfl,.inr ⟨rfl,l,res,hl,hb,hx▸hR,hn,hK⟩⟩
theorem Mh[Mode]{P:Program}{f:FuncId}{ds:List D}{K:St->Prop}{st:St}{as gs gs':List D}{rc:D}(js:List Nat)(tg:Bool)(hR:je P f as gs rc gs')(hn:js.Nodup/\js.all (fun j=>decide (j<1000+st.n))=true)(hl:iQ st (sg st.n js) js gs)(ha:iG st (sg st.n js) js tg ds as)
  (hw:iT gs gs') (ht:tg=true->rc.gA=true/\jd gs'=true) (hK:K ((fc (sg st.n js) (st.kill (qG js gs gs')) js gs').push (rc.an (sg st.n js)))):@jX _ P f ds true false ⟨K⟩ st :=
 ⟨rfl,.inl ⟨js,tg,as,gs,_,hR,hn,hl,ha,fun _ _ h=>by obtain⟨rfl,rfl⟩:=h;exact⟨hw,ht,fun h=>(by cases h),hK⟩⟩⟩
theorem WW[Mode]{P:Program}{f:FuncId}{ds:List D}{gt:Bool}{K:St->Prop}{st:St}{as gs gs':List D}{rc:D}(js:List Nat)(tg:Bool)(hgt:gt=true)(hR:je P f as gs rc gs')(hn:js.Nodup/\js.all (fun j=>decide (j<1000+st.n))=true)(hl:iQ st (sg st.n js) js gs)(ha:iG st (sg st.n js) js tg ds as)
  (hw:iT gs gs') (ht:tg=true->rc.gA=true/\jd gs'=true) (ho:(rc.an (sg st.n js)).ca=true) (hK:K ((fc (sg st.n js) (st.kill (qG js gs gs')) js gs').push (.when true (rc.an (sg st.n js))))):@jX _ P f ds gt true ⟨K⟩ st :=
 ⟨hgt,.inl ⟨js,tg,as,gs,_,hR,hn,hl,ha,fun _ _ h=>by obtain⟨rfl,rfl⟩:=h;exact⟨hw,ht,fun _=>ho,hK⟩⟩⟩
theorem LX[Mode]{P:Program}{f:FuncId}{ds:List D}{K:St->Prop}{st:St}{as gs:List D}{Q:D->List D->Prop}(js:List Nat)(tg:Bool)(hR:bY P f as gs Q)(hn:js.Nodup/\js.all (fun j=>decide (j<1000+st.n))=true)(hl:iQ st (sg st.n js) js gs)(ha:iG st (sg st.n js) js tg ds as)
  (hK:∀rc gs',Q rc gs'->iT gs gs'/\(tg=true->rc.gA=true/\jd gs'=true)/\K ((fc (sg st.n js) (st.kill (qG js gs gs')) js gs').push (rc.an (sg st.n js)))):@jX _ P f ds true false ⟨K⟩ st :=
 ⟨rfl,.inl ⟨js,tg,as,gs,_,hR,hn,hl,ha,fun _ _ h=>⟨(hK _ _ h).1,(hK _ _ h).2.1,fun h=>(by cases h),(hK _ _ h).2.2⟩⟩⟩
theorem WR[Mode]{P:Program}{f:FuncId}{ds:List D}{gt:Bool}{K:St->Prop}{st:St}{as gs:List D}{Q:D->List D->Prop}(js:List Nat)(tg:Bool)(hgt:gt=true)(hR:bY P f as gs Q)(hn:js.Nodup/\js.all (fun j=>decide (j<1000+st.n))=true)(hl:iQ st (sg st.n js) js gs)(ha:iG st (sg st.n js) js tg ds as)
  (hK:∀rc gs',Q rc gs'->iT gs gs'/\(tg=true->rc.gA=true/\jd gs'=true)/\(rc.an (sg st.n js)).ca=true/\K ((fc (sg st.n js) (st.kill (qG js gs gs')) js gs').push (.when true (rc.an (sg st.n js))))):@jX _ P f ds gt true ⟨K⟩ st :=
 ⟨hgt,.inl ⟨js,tg,as,gs,_,hR,hn,hl,ha,fun _ _ h=>⟨(hK _ _ h).1,(hK _ _ h).2.1,fun _=>(hK _ _ h).2.2.1,(hK _ _ h).2.2.2⟩⟩⟩
def sj(js:List Nat)(i:Nat):Nat:=(js[i]?).getD 0
def ie(n:Nat):D->Prop
 | .sub k _=>k<n
 | .az k _=>k<n
 | _=>True
def pB(ob:Nat->D)(σ:Nat->Nat):List Nat->List D->Prop
 | [],[]=>True
 | j::js,g::gs=>(j<1000/\ob j=g.an σ)/\pB ob σ js gs
 | _,_=>False
def sG(σ:Nat->Nat):List D->List D->Prop
 | [],[]=>True
 | d::ds,a::as=>d=a.an σ/\sG σ ds as
 | _,_=>False
def nk[Mode](P:Program)(f:FuncId)(ob:Nat->D)(ds:List D)(c:D):Prop :=
 ∃(js:List Nat)(as gs:List D)(rc:D),BR P f as gs rc/\js.Nodup/\pB ob (sj js) js gs/\sG (sj js) ds as/\(bE (ie js.length) as/\bE (ie js.length) gs/\rc.refs (ie js.length))/\rc.ca=true/\c=rc.an (sj js)
def CC[Mode](P:Program)(f:FuncId)(ds:List D)[K:KH](st:St):Prop:=∃c,nk P f st.cont ds c/\K.k (st.push c)
theorem W4[Mode]{P:Program}{f:FuncId}{ds:List D}{K:St->Prop}{st:St}{as gs:List D}{rc:D}(js:List Nat)(hR:BR P f as gs rc)(hn:js.Nodup)(hl:pB st.cont (sj js) js gs)(ha:sG (sj js) ds as)
  (hr:bE (ie js.length) as/\bE (ie js.length) gs/\rc.refs (ie js.length)) (ho:rc.ca=true) (hK:K (st.push (rc.an (sj js)))):@CC _ P f ds ⟨K⟩ st :=
 ⟨_,⟨js,as,gs,rc,hR,hn,hl,ha,hr,ho,rfl⟩,hK⟩
def jR(d:D)(K:D->St->Prop)(st:St):Prop :=
 match d with
 | .az j [(0,0)]=>((st.kill (aQ j)).cont j).isObj=true/\(st.cont j).gK=false/\K ((st.kill (aQ j)).cont j) ((st.kill (aQ j)).put j .dead)
 | _=>False
def lQ(j:Nat)(x:D)(K:St->Prop)(st:St):Prop :=
 aw x (fun d st=>K (((st.kill (aQ j)).put j (aM d)).push .dead)) st
def D.mC:D->Bool
 | .o _ | .box _ | .row _ _ | .when _ _ | .dead=>false
 | _=>true
def oU(j:Nat)(x:D)(K:St->Prop)(st:St):Prop :=
 x.refs (b9 j)/\x.mC=true/\K (((st.kill (aQ j)).put j x).push .dead)
def iB:Path->Path
 | []=>[]
 | [_]=>[]
 | s::t::r=>s::iB (t::r)
def kU:Path->Bool
 | []=>false
 | [s]=>s.1 == 0&&s.2 == 0
 | _::t::r=>kU (t::r)
def D.re:D->Bool
 | .ptr _=>true
 | _=>false
def ky(j:Nat)(x:D)(K:St->Prop)(st:St):Prop :=
 match x with
 | .az k q=>kU q=true/\dL k (iB q) (fun d st=>d.re=true/\K (((st.kill (aQ j)).put j (aM d)).push .dead)) st
 | x=>lQ j x K st
theorem Eh:∀{q:Path},kU q=true->q=iB q++[(0,0)]
 | [],h=>by cases h
 | [(a,b)],h=>by
  simp only[kU,Bool.and_eq_true,beq_iff_eq] at h;rw[h.1,h.2];rfl
 | s::t::r,h=>by
  have:=Eh (q:=t::r) h;show s::t::r=s::(iB (t::r)++[(0,0)]);rw[<-this]
def y9(k:Nat)(p:Path):D->Prop
 | .sub j q=>j≠k\/(q≠[]/\gh q p=false)
 | _=>True
def cX(c:D)(p:Path):Nat->List D->D
 | _,[]=>c
 | j,y::r=>cX (c.setAt (bump p j) (if bc c (bump p j)=true then aM y else y)) p (j+1) r
def lj(c:D)(p:Path):Nat->List D->Prop
 | _,[]=>True
 | j,y::r=>c.aT (bump p j)/\y.isAgg=false/\lj c p (j+1) r
def D.oR:D->Bool
 | .az _ _=>true
 | _=>false
def oI(k:Nat)(p:Path)(x:D)(K:St->Prop)(st:St):Prop :=
 match x with
 | .az j q=>kU q=true/\j≠k/\dL j (iB q) (fun d st=>d.re=true/\lj ((st.kill (bd k p)).cont k) p 0 [d] /\
    K (((st.kill (bd k p)).put k (cX ((st.kill (bd k p)).cont k) p 0 [d])).push .dead)) st
 | _=>False
def lD(b:Bool)(n k:Nat)(p:Path)(x:D)(K:St->Prop)(st:St):Prop :=
 match b with
 | true=>n=1/\oI k p x K st
 | false=>cA x.cellsOf fun l=>l.length=n/\bE (y9 k p) l/\bP l (fun l' st=>lj ((st.kill (bd k p)).cont k) p 0 l' /\
    K (((st.kill (bd k p)).put k (cX ((st.kill (bd k p)).cont k) p 0 l')).push .dead)) st
def jI(n:Nat)(a x:D)(K:St->Prop)(st:St):Prop :=
 match a with
 | .az k p=>lD x.oR n k p x K st
 | _=>False
def D.gy:D->Bool
 | .int _ _ | .bool _ | .str _ | .aP | .slice _ _ | .ptr _ | .aF _ | .sub _ _ | .az _ _=>true
 | _=>false
def oy:List D->Bool
 | []=>true
 | x::r=>x.gy&&oy r
def D.qO:D->Option (List D)
 | .box l=>some l
 | _=>none
def nN:Path->Bool
 | []=>false
 | [s]=>s.1 == 0&&s.2 == 0
 | _::_::_=>false
theorem MM:∀{p:Path},nN p=true->p=[(0,0)]
 | [],h=>by cases h
 | [(a,b)],h=>by
  simp only[nN,Bool.and_eq_true,beq_iff_eq] at h;rw[h.1,h.2]
 | _::_::_,h=>by cases h
def qm(b:Bool)(n k:Nat)(p:Path)(x:D)(K:St->Prop)(st:St):Prop :=
 match b with
 | true=>cA (st.cont k).qO fun l0=>l0.length=n/\cA x.cellsOf fun l=>l.length=n/\oy l=true/\bE (fun d=>bd k [(0,0)] d=false) l /\
   K (((st.kill (bd k [(0,0)])).put k (.box l)).push .dead)
 | false=>lD x.oR n k p x K st
def mU(n:Nat)(a x:D)(K:St->Prop)(st:St):Prop :=
 match a with
 | .az k p=>qm (nN p) n k p x K st
 | _=>False
def D.ia:D->Option (List D)
 | .slice _ l=>some l
 | .aF _=>some []
 | _=>none
def lC(st:St)(x:D):Option (List D) :=
 match x with
 | .sub k p=>(lk st.cont k).bind fun c=>(c.a8 p).ia
 | x=>x.ia
def D.cZ(y:D)(M:List D):D :=
 match y with
 | .slice z L=>.slice z (L++M)
 | y=>y
def D.row?:D->Option (List D)
 | .row _ l=>some l
 | _=>none
def isRow(st:St)(x:D):Option (List D) :=
 match x with
 | .sub k []=>(st.cont k).row?
 | _=>none
def gE(s:D)(K:D->St->Prop)(st:St):Prop :=
 match s with
 | .sub k p=>dL k p K st
 | .aF z=>K (.slice z []) st
 | _=>False
def sF(st:St)(x:D):Option (List D ⊕ List D) :=
 match isRow st x with
 | some l=>some (.inl l)
 | none=>(lC st x).bind fun M=>some (.inr M)
def rB(sz:Nat):List D->Prop
 | []=>True
 | e::r=>e.cells.length=sz/\rB sz r
def D.px:D->Bool
 | .slice _ _=>true
 | _=>false
def D.gu:D->Bool
 | .int _ _ | .bool _ | .str _ | .slice _ _ | .aP | .ptr _ | .mp _ _ | .bD | .bp _ _ | .bj=>true
 | _=>false
def nZ:List D->Bool
 | []=>true
 | x::r=>x.gu&&nZ r
def D.xr(sz:Nat)(e:D):Bool:=decide (e.cells.length=sz)&&nZ e.cells
def D.pI:D->Bool
 | .slice z _=>z.px || z.isAgg
 | _=>false
def D.xt:D->Bool
 | .o x=>x.pI
 | _=>false
def nT(st:St)(x:D):Option (Nat×Path) :=
 match x with
 | .sub k []=>if(st.cont k).xt=true then some (k,[]) else none
 | .sub k (q::p)=>if((st.cont k).a8 (q::p)).pI=true then some (k,q::p) else none
 | _=>none
def nq(sz bytes:Nat)(s x:D)(K:St->Prop)(st:St):Prop :=
 match nT st x with
 | some k=>x.refs (mN [s])/\dL k.1 k.2 (fun y st=>y.gb=sz/\cA y.ia fun M=>(∀e∈M,e.xr sz=true) /\
   gE s (fun y st=>y.gb=sz/\cA y.bW fun m=>(m+M.length)*bytes<=140737488355328/\K (st.push (.o (y.cZ M)))) st) st
 | none=>cA (sF st x) fun src=>match src with
 | .inl l=>rB sz l/\bE (mN [s]) l/\bP l (fun M st=>gE s (fun y st=>y.gb=sz/\cA y.bW fun m=>(m+M.length)*bytes<=140737488355328/\K (st.push (.o (y.cZ M)))) st) st
 | .inr M=>(∀e∈M,e.bR=true)/\sz=1/\x.refs (mN [s])/\gE s (fun y st=>y.gb=sz/\cA y.bW fun m=>(m+M.length)*bytes<=140737488355328/\K (st.push (.o (y.cZ M)))) st
def fh:List D->List D->(List D->St->Prop)->St->Prop
 | done,[],K,st=>K done st
 | done,.sub k p::r,K,st=>bE (lP k p) (done++r)/\dL k p (fun x st=>fh (done++[aM x]) r K st) st
 | done,x::r,K,st=>x.pc=true/\fh (done++[x]) r K st
def oZ(n:Nat)(x:D)(K:St->Prop)(st:St):Prop :=
 match x.cellsOf with
 | none=>False
 | some l=>(l.length=n/\0<n)/\fh [] l (fun l' st=>K (st.push (.box l'))) st
def oX(z x:D)(K:St->Prop)(st:St):Prop :=
 match x.cellsOf with
 | none=>False
 | some l=>l.length=z.cells.length/\bP l (fun l' st=>K (st.push (.o (.slice z [.agg l'])))) st
def o7(d s:D)[K:KH](st:St):Prop :=
 match d with
 | .sub k (q::p)=>∃M,lC st s=some M/\(∀e∈M,e.bR=true)/\bP [.sub k (q::p)] (fun l st=>∃z L,l=[.slice z L]/\(z.cells.length=1/\∀e∈L,e.bR=true) /\
   eL [.sub k (q::p)] [.slice z (M.take L.length++L.drop M.length)] (fun st=>K.k (st.push (.int .i64 (min M.length L.length:Nat)))) st) st
 | _=>False
def nS(kk:Nat)(m k v:D)[K:KH](st:St):Prop :=
 k.jx kk=true/\v.bR=true/\match m with
 | .sub j []=>cA ((st.cont j).o?.bind D.jz) fun e=>cA (eZ k e.1) fun r=>e.1.length<maxLen/\K.k ((st.put j (.o (.mp (cz k v e.1 e.2 r).1 (cz k v e.1 e.2 r).2))).push .dead)
 | .sub j (s::p)=>bP [.sub j (s::p)] (fun l st=>cA ((l.head?).bind D.jz) fun e=>cA (eZ k e.1) fun r=>e.1.length<maxLen /\
   eL [.sub j (s::p)] [.mp (cz k v e.1 e.2 r).1 (cz k v e.1 e.2 r).2] (fun st=>K.k (st.push .dead)) st) st
 | _=>False
def iZ(s:List UInt8)(p:Nat):Nat×Nat:=Utf8.decode ⟨s.toArray⟩ p
def D.rh:D->Option (List UInt8×Nat)
 | .o (.bK s p)=>some (s,p)
 | _=>none
def nW(j:Nat)[K:KH](st:St):Prop :=
 cA (st.cont j).rh fun e=>(e.2<e.1.length->K.k ((st.put j (.o (.bK e.1 (e.2+(iZ e.1 e.2).2)))).push (.ah [.bool true,.int .i64 e.2,.int .i32 (iZ e.1 e.2).1]))) /\
  (e.1.length<=e.2->K.k (st.push (.ah [.bool false])))
def qU(kb:Nat):Nat->List D->Prop
 | _,[]=>True
 | j,d::r=>d.refs (b9 kb)/\(b6 j d).core.refs (b9 kb)/\qU kb (j+1) r
def vP(sz bytes b s:Nat)(K:St->Prop)(st:St):Prop :=
 sz=1/\cA (st.cont (1000+s)).row? fun l=>iy l=true/\cA (st.cont (1000+b)).o? fun y=>y.gb=1/\cA y.bW fun m=>(m+l.length)*bytes<=140737488355328 /\
  qU (1000+b) 0 st.env/\bE (b9 (1000+b)) st.tmp/\K ((st.put (1000+b) .dead).push (.o (y.cZ l)))
def a7[Mode](P:Program)(k:Kp)(g:Option Bool)(K:St->Prop)(st:St):Prop :=
 match k with
 | .bZ j x=>g=none/\(st.rd x).gate=true/\lQ j (st.rd x).core K st
 | .jh j x=>g=none/\(st.rd x).gate=true/\oU j (st.rd x).core K st
 | .call f xs=>@jS _ P f (gJ st.cont st.rd xs) (db st.rd xs) (jF st.rd xs) g ⟨K⟩ st
 | .fZ f xs=>g=none/\db st.rd xs=true/\@CC _ P f (ei st.rd xs) ⟨K⟩ st
 | .st a x=>g=none/\((st.rd a).gate&&(st.rd x).gate)=true/\jI 1 (st.rd a).core (st.rd x).core K st
 | .eQ n a x=>g=none/\((st.rd a).gate&&(st.rd x).gate)=true/\jI n (st.rd a).core (st.rd x).core K st
 | .ko n a x=>g=none/\((st.rd a).gate&&(st.rd x).gate)=true/\mU n (st.rd a).core (st.rd x).core K st
 | .app sz bytes s x=>g=none/\((st.rd s).gate&&(st.rd x).gate)=true/\nq sz bytes (st.rd s).core (st.rd x).core K st
 | .gZ f (x::r)=>@ju _ P f (st.rd x).core (gJ st.cont st.rd r) (db st.rd (x::r)) (jF st.rd r) g ⟨K⟩ st
 | .gZ _ []=>False
 | .dyn x xs=>@iJ _ P (st.rd x).core (ei st.rd xs) (db st.rd (x::xs)) g ⟨K⟩ st
 | .kC n x=>g=none/\(st.rd x).gate=true/\oZ n (st.rd x).core K st
 | .bo x=>g=none/\(st.rd x).gate=true/\jR (st.rd x).core (fun c st=>K (st.push c)) st
 | .dN sz bytes b s=>g=none/\vP sz bytes b s K st
 | .dB x y=>g=none/\((st.rd x).gate&&(st.rd y).gate)=true/\@o7 (st.rd x).core (st.rd y).core ⟨K⟩ st
 | .lb kk m k v=>g=none/\((st.rd m).gate&&(st.rd k).gate&&(st.rd v).gate)=true/\@nS kk (st.rd m).core (st.rd k).core (st.rd v).core ⟨K⟩ st
 | .lh j=>g=none/\@nW j ⟨K⟩ st
 | .ff x=>eN (bN (.ff x) st.rd) g K st
 | .fL x=>eN (bN (.fL x) st.rd) g K st
 | .box n x=>eN (bN (.box n x) st.rd) g K st
 | .fo n x=>eN (bN (.fo n x) st.rd) g K st
 | .eV zs=>eN (bN (.eV zs) st.rd) g K st
 | .ae z b l c=>eN (bN (.ae z b l c) st.rd) g K st
 | .cn z n ps=>eN (bN (.cn z n ps) st.rd) g K st
 | .fQ=>eN (bN .fQ st.rd) g K st
 | .kA z x=>g=none/\(st.rd x).gate=true/\oX z (st.rd x).core K st
 | .ji j x=>g=none/\(st.rd x).gate=true/\ky j (st.rd x).core K st
 | k=>gw (bz k st.rd st.cont) g K st
def D.bool?:D->Option Bool
 | .bool b=>some b
 | _=>none
def gd(c:D)(want:Bool):Option Bool:=c.core.bool?.bind fun b=>some (c.gate&&(if want then b else !b))
def jq(v:Option Bool)(K:Bool->Prop):Prop :=
 match v with
 | some b=>K b
 | none=>False
def bU[Mode](P:Program)(K:St->Prop):List a6->St->Prop
 | [],st=>K st
 | ⟨none,k⟩::r,st=>a7 P k none (bU P K r) st
 | ⟨some (j,want),k⟩::r,st=>jq (gd (st.rd (.t j)) want) fun b=>a7 P k (some b) (bU P K r) st
structure Ex where
 ex:Nat->List D->Prop
 ret:List D->Prop
def iH(v:D)(A B:Prop):Prop :=
 match v with
 | .bool b=>(b=true->A)/\(b=false->B)
 | _=>False
def cL:List Nat->St->St
 | [],st=>st
 | j::r,st=>cL r ((st.kill (aQ j)).put j .dead)
def jl:List (Nat×Nat)->St->St
 | [],st=>st
 | (j,i)::r,st=>jl r ((((st.kill (aQ j)).kill (aQ (1000+i))).put j ((((st.kill (aQ j)).kill (aQ (1000+i)))).cont (1000+i))).put (1000+i) .dead)
def yg(i k:Nat)(x:Option D)(st:St):St :=
 match x with
 | some x=>(((st.kill (aQ k)).put k .dead).kill (aQ (1000+i))).put (1000+i) (aM x)
 | none=>st
def jD(i:Nat)(c:D)(st:St):St :=
 match c with
 | .sub k (s::p)=>if 1000<=k then(((st.kill (bB k (s::p))).put k (((st.kill (bB k (s::p))).cont k).hole (s::p))).kill (aQ (1000+i))).put (1000+i) (aM ((st.cont k).a8 (s::p))) else st
 | .sub k []=>if 1000<=k then yg i k (st.cont k).iz st else st
 | _=>st
def iu:List (Nat×Nat)->St->St
 | [],st=>st
 | (_,i)::r,st=>iu r (jD i (st.cont (1000+i)) st)
def fin(post:List (Nat×Nat))(st:St):List D:=((jl post (iu post st)).kill eP).env
class LH where
 body:(List D->Prop)->Ex->List D->Prop
 E:Ex
def tF[h:LH](env:List D):Prop :=
 ∃(js:List Nat)(α:Type)(S:α->List D)(I:α->Prop)(μ:α->Nat)(x0:α),I x0/\(cL js ⟨env,0,[]⟩).env=S x0/\∀x,I x->h.body (fun env'=>∃x',I x'/\μ x'<μ x/\(cL js ⟨env',0,[]⟩).env=S x') h.E (S x)
def mR(env:List D):List (Nat×D)->List D
 | []=>env
 | (j,c)::r=>mR (ek env j c) r
theorem aJ{body:(List D->Prop)->Ex->List D->Prop}{E:Ex}{env:List D}{α:Type}(js:List Nat)(f:α->List (Nat×D))(I:α->Prop)(μ:α->Nat)(x0:α){env0:List D}(h0:(cL js ⟨env,0,[]⟩).env=env0)
  (hI:I x0) (he:env0=mR env0 (f x0)) (h:∀x,I x->body (fun env'=>∃x',I x'/\μ x'<μ x/\(cL js ⟨env',0,[]⟩).env=mR env0 (f x')) E (mR env0 (f x))):@tF ⟨body,E⟩ env :=
 ⟨js,α,fun x=>mR env0 (f x),I,μ,x0,hI,by rw[h0];exact he,h⟩
theorem af[Mode]{P:Program}{f:FuncId}{pl:Prop}{K:St->Prop}{st:St}{as:List Arg}{ds:List D}{res:D}(hR:al P f as res)(ha:as=ds.map .v)(hn:res.ba=true\/pl)(hK:K (st.push (aM res))):@jS _ P f (some ds) true pl none ⟨K⟩ st :=
 ⟨ds,res,_,rfl,⟨rfl,ha▸hR,hn⟩,.inl rfl,hK⟩
theorem WI[Mode]{P:Program}{f:FuncId}{pl:Prop}{K:St->Prop}{st:St}{as:List Arg}{ds:List D}{res:D}(hR:al P f as res)(ha:as=ds.map .v)(hn:res.ba=true\/pl)(hK:K (st.push (aM (.vw res)))):@jS _ P f (some ds) true pl none ⟨K⟩ st :=
 ⟨ds,res,_,rfl,⟨rfl,ha▸hR,hn⟩,.inr rfl,hK⟩
theorem bt[Mode]{P:Program}{f:FuncId}{gt:Bool}{pl:Prop}{K:St->Prop}{st:St}{as:List Arg}{ds:List D}{res:D}{b:Bool}(hR:b=true->al P f as res)(ha:as=ds.map .v)(hgt:b=true->gt=true)(hn:res.ba=true\/pl)(hK:K (st.push (.when b res))) :
  @jS _ P f (some ds) gt pl (some b) ⟨K⟩ st:=⟨ds,res,_,rfl,fun hb=>⟨hgt hb,ha▸hR hb,hn⟩,.inl rfl,hK⟩
theorem WH[Mode]{P:Program}{f:FuncId}{gt:Bool}{pl:Prop}{K:St->Prop}{st:St}{as:List Arg}{ds:List D}{res res':D}{b:Bool}(hR:b=true->al P f as res)(hv:res.wx=res')(ha:as=ds.map .v)(hgt:b=true->gt=true)(hn:res.ba=true\/pl)(hK:K (st.push (.when b res'))) :
  @jS _ P f (some ds) gt pl (some b) ⟨K⟩ st:=⟨ds,res,_,rfl,fun hb=>⟨hgt hb,ha▸hR hb,hn⟩,.inr rfl,hv▸hK⟩
theorem W1[Mode]{P:Program}{f:FuncId}{pl:Prop}{K:St->Prop}{st:St}{as:List Arg}{ds l l':List D}{res:D}{k:Nat}(hR:al P f as res)(ha:as=.io (.box l) (.box l')::ds.map .v)(hpl:pl)(hc:st.cont k=.box l)
  (hl:bE c8 l/\bE c8 l'/\l'.length=l.length) (hK:K (((st.kill (bd k [(0,0)])).put k (.box l')).push (aM res))):@ju _ P f (.az k [(0,0)]) (some ds) true pl none ⟨K⟩ st :=
 ⟨rfl,rfl,hpl,ds,rfl,l,l',res,hc,hl.1,hl.2.1,hl.2.2,ha▸hR,hK⟩
theorem wY[Mode]{P:Program}{f:FuncId}{pl:Prop}{K:St->Prop}{st:St}{as:List Arg}{ds:List D}{x y res:D}{k:Nat}(hR:al P f as res)(ha:as=.io (.o x) (.o y)::ds.map .v)(hpl:pl)(hc:st.cont k=.o x)
  (hK:K (((st.kill (bB k [])).put k (.o y)).push (aM res))):@ju _ P f (.sub k []) (some ds) true pl none ⟨K⟩ st :=
 ⟨rfl,rfl,hpl,ds,rfl,x,y,res,hc,ha▸hR,hK⟩
theorem j0[Mode]{P:Program}{f:FuncId}{pl:Prop}{K:St->Prop}{st:St}{as:List Arg}{ds:List D}{res:D}{k:Nat}{s:Nat×Nat}{p:Path}(hR:al P f as res)(hpl:pl)
  (h:bP [.sub k (s::p)] (fun l st=>∃x y,l=[x]/\as=.io (.o x) (.o y)::ds.map .v/\eL [.sub k (s::p)] [y] (fun st=>K (st.push (aM res))) st) st):@ju _ P f (.sub k (s::p)) (some ds) true pl none ⟨K⟩ st :=
 ⟨rfl,rfl,hpl,ds,rfl,qE _ (fun _ _ ⟨x,y,h1,h2,h3⟩=>⟨x,y,res,h1,h2▸hR,h3⟩) h⟩
theorem MC[Mode]{P:Program}{f:FuncId}{pl:Prop}{K:St->Prop}{st:St}{as:List Arg}{ds l:List D}{res:D}(hR:al P f as res)(hpl:pl)
  (h:bP l (fun xs st=>∃ys,as=.io (.o (.agg xs)) (.o (.agg ys))::ds.map .v/\eL l ys (fun st=>K (st.push (aM res))) st) st):@ju _ P f (.agg l) (some ds) true pl none ⟨K⟩ st :=
 ⟨rfl,rfl,hpl,ds,rfl,qE _ (fun _ _ ⟨ys,h2,h3⟩=>⟨ys,res,h2▸hR,h3⟩) h⟩
def qx[Mode](P:Program):RT->(List D->Prop)->St->Prop
 | .leaf l post,K,st=>bU P (fun st=>K (fin post st)) l st
 | .two _ _ _ a b,K,st=>qx P a K st/\qx P b K st
def bF[Mode](P:Program):C->(List D->Prop)->Ex->List D->Prop
 | .skip,K,_,env=>K env
 | .ops pre l post,K,_,env=>bU P (fun st=>K (fin post st)) l (cL pre ⟨env,0,[]⟩)
 | .eC pre l post x a b,K,E,env=>bU P (fun st=>(st.rd x).gate=true/\iH (st.rd x).core (bF P a K E (fin post st)) (bF P b K E (fin post st))) l (cL pre ⟨env,0,[]⟩)
 | .um pre l post x a b c,K,E,env=>bU P (fun st=>(st.rd x).gate=true/\iH (st.rd x).core (bF P a (bF P c K E) E (fin post st)) (bF P b (bF P c K E) E (fin post st))) l (cL pre ⟨env,0,[]⟩)
 | .seq a b,K,E,env=>bF P a (bF P b K E) E env
 | .cond x a b,K,E,env=>iH ((⟨env,0,[]⟩:St).rd x) (bF P a K E env) (bF P b K E env)
 | .block id c,K,E,env=>bF P c K ⟨fun i s=>if i=id then K s else E.ex i s,E.ret⟩ env
 | .loop c,_,E,env=>@tF ⟨bF P c,E⟩ env
 | .exit id,_,E,env=>E.ex id env
 | .ret,_,E,env=>E.ret env
 | .alt pre t,K,_,env=>qx P t K (cL pre ⟨env,0,[]⟩)
theorem VS[Mode]{P:Program}{K:St->Prop}{st:St}:bU P K (oL []) st=K st:=rfl
theorem VR[Mode]{P:Program}{K:St->Prop}{k:Kp}{r:List Kp}{st:St}:bU P K (oL (k::r)) st=a7 P k none (bU P K (oL r)) st:=rfl
theorem VQ[Mode]{P:Program}{K:List D->Prop}{E:Ex}{l:List Kp}{env:List D}:bF P (.u l) K E env=bU P (fun st=>K (fin [] st)) (oL l) (cL [] ⟨env,0,[]⟩):=rfl
theorem Rr[Mode]{P:Program}{K:St->Prop}{i:Nat}{g:Option Bool}{st:St}:a7 P (.m i) g K st=a7 P (.mv (.v i)) g K st:=rfl
theorem Rs[Mode]{P:Program}{K:St->Prop}{i:Nat}{g:Option Bool}{st:St}:a7 P (.n i) g K st=a7 P (.mv (.t i)) g K st:=rfl
theorem Rq[Mode]{P:Program}{K:St->Prop}{j i:Nat}{g:Option Bool}{st:St}:a7 P (.a j i) g K st=a7 P (.bZ j (.t i)) g K st:=rfl
end Go.D3
namespace Go.D3
open Go
def U{α:Type}(f:α->D)(d:α)(l:List α):D:=.slice (f d) (l.map f)
abbrev ints(l:List Int):D:=U (D.int .i64) 0 l
abbrev bytes(l:List Int):D:=U (D.int .u8) 0 l
abbrev kB(l:List Bool):D:=U D.bool false l
abbrev fF(l:List (List UInt8)):D:=U D.str [] l
abbrev aW(l:List (List Int)):D:=U ints [] l
abbrev sM(l:List (List Bool)):D:=U kB [] l
abbrev u6(l:List (List (List UInt8))):D:=U fF [] l
abbrev nI(l:List (List (List Int))):D:=U aW [] l
abbrev D0(l:List (List (List (List Int)))):D:=U nI [] l
theorem getD_map'{α β:Type}(f:α->β)(d:α)(l:List α)(i:Nat):(l.map f).getD i (f d)=f (l.getD i d):=by
 rw[List.getD_eq_getElem?_getD,List.getD_eq_getElem?_getD,List.getElem?_map];cases l[i]?<;>rfl
section U
variable{α:Type}{f:α->D}{d:α}{l:List α}
theorem EA:(U f d l).bW=some l.length:=by simp[U,D.bW]
theorem Ey{i:Nat}:(U f d l).iL i=(f (l.getD i d)).cells:=by simp only[U,D.iL,getD_map']
theorem N2{lo:Option X}:mZ (U f d l) lo=none:=rfl
theorem Nl:(U f d l).cells=[U f d l]:=rfl
theorem Nn:(U f d l).cellsOf=some [U f d l]:=rfl
theorem Ns:(U f d l).core=U f d l:=by simp[U,D.core]
theorem Nx:(U f d l).gate=true:=rfl
theorem N5:(U f d l).un=U f d l:=rfl
theorem NP{k:Nat}:b6 k (U f d l)=U f d l:=rfl
theorem Nw{k:Nat}{p:Path}:cQ k p (U f d l)=.sub k p:=rfl
theorem NG{i o:Nat}:(U f d l).du i o=(f (l.getD i d)).cells.getD o .dead:=by simp only[U,D.du,getD_map']
theorem EC{i o:Nat}{y:D}:(U f d l).cR i o y=.slice (f d) ((l.map f).set i (eo (f (l.getD i d)) o y)):=by simp only[U,D.cR,getD_map']
theorem Ez{i:Nat}{x:α}:D.slice (f d) ((l.map f).set i (f x))=U f d (l.set i x):=by simp[U,List.map_set]
theorem Nz{i o:Nat}:(U f d l).ey i o=(i<l.length/\o<(f d).cells.length):=by simp[U,D.ey]
theorem NM{i:Nat}{y:D}:(U f d l).gM i y=jB (f (l.getD i d)) y:=by simp only[U,D.gM,getD_map']
theorem Nj{M:List α}:(U f d l).cZ (M.map f)=U f d (l++M):=by simp[U,D.cZ]
theorem kY{x:α}:(U f d l).cZ [f x]=U f d (l++[x]):=by simp[U,D.cZ]
theorem Nk:(U f d l).cZ []=U f d l:=by simp[U,D.cZ]
theorem Nv:(U f d l).gb=(f d).cells.length:=rfl
theorem NB:(U f d l).isAgg=false:=rfl
theorem NC:(U f d l).isObj=false:=rfl
theorem NN:(U f d l).ca=true:=rfl
theorem NU:(U f d l).mC=true:=rfl
theorem NZ:(U f d l).bR=false:=rfl
theorem NH{q:D->Bool}:(U f d l).kill q=U f d l:=rfl
theorem NW{σ:Nat->Nat}:(U f d l).an σ=U f d l:=rfl
theorem N4:(U f d l).tight=false:=rfl
theorem NV{Q:D->Prop}:(U f d l).refs Q=True:=rfl
theorem Nq:aM (U f d l)=.o (U f d l):=rfl
theorem NY:(U f d l).gy=true:=rfl
theorem Ni:(U f d l).oR=false:=rfl
theorem NR:(U f d l).eD=some (.vw (U f d l)):=rfl
theorem NS:(U f d l).pR=some (.vw (U f d l)):=rfl
theorem Nr:aM (.vw (U f d l))=U f d l:=rfl
theorem NQ{i:Nat}{st:St}:jD i (U f d l) st=st:=rfl
theorem Nh{K:D->St->Prop}{st:St}:aw (U f d l) K st=K (.vw (U f d l)) st:=rfl
theorem W7:D.slice (f d) []=U f d []:=rfl
theorem W8{n:Nat}:D.slice (f d) (List.replicate n (f d))=U f d (List.replicate n d):=by simp[U]
theorem Nt{a b:Nat}:(U f d l).cut a b=some (U f d ((l.take b).drop a)):=by simp[U,D.cut,List.map_take,List.map_drop]
theorem NI{ob:Nat->D}:j8 ob (U f d l)=some (True,.int .i64 l.length):=by simp[U,j8,D.bW,one]
theorem NA{ob:Nat->D}{sz:Nat}{k:IntKind}{n:Int}:me sz ob (U f d l) (.int k n)=some (0<=n/\n<l.length/\(f (l.getD n.toNat d)).cells.length=sz,.ptr (f (l.getD n.toNat d)).cells):=by
 have h:me sz ob (U f d l) (.int k n)=(U f d l).bW.bind fun m=>some (0<=n/\n<m/\((U f d l).iL n.toNat).length=sz,.ptr ((U f d l).iL n.toNat)):=rfl
 rw[h,EA,Ey];rfl
theorem N1{st:St}:lC st (U f d l)=some (l.map f):=rfl
theorem NF:(U f d l).px=true:=rfl
theorem NK:(U f d l).pI=((f d).px || (f d).isAgg):=rfl
theorem NO:(U f d l).gu=true:=rfl
theorem NJ{st:St}:nT st (U f d l)=none:=rfl
theorem ND{st:St}:isRow st (U f d l)=none:=rfl
theorem Nu:(U f d l).ia=some (l.map f):=rfl
theorem NX:(U f d l).row?=none:=rfl
theorem EB:(U f d l).pc=true:=by simp[U,D.pc]
theorem NT:(U f d l).fb=some (U f d l):=rfl
theorem NL(h:∀x,(f x).ba=true):(U f d l).ba=true:=by
 simp only[U,D.ba];induction l with
 | nil=>rfl
 | cons a l ih=>simp[dH,h,ih]
theorem Ny{ob:Nat->D}{n:Nat}:aV ob (n+1) (U f d l)=some (U f d l):=rfl
end U
theorem UY:D.slice (.int .i64 0) []=ints []:=rfl
theorem UX:D.slice (.int .u8 0) []=bytes []:=rfl
theorem UU:D.slice (.bool false) []=kB []:=rfl
theorem U2:D.slice (.str []) []=fF []:=rfl
theorem SR{n:Nat}:D.slice (.int .i64 0) (List.replicate n (.int .i64 0))=ints (List.replicate n 0):=by simp[ints,U]
theorem SQ{n:Nat}:D.slice (.int .u8 0) (List.replicate n (.int .u8 0))=bytes (List.replicate n 0):=by simp[bytes,U]
theorem SO{n:Nat}:D.slice (.bool false) (List.replicate n (.bool false))=kB (List.replicate n false):=by simp[kB,U]
theorem SX{n:Nat}:D.slice (.str []) (List.replicate n (.str []))=fF (List.replicate n []):=by simp[fF,U]
theorem SS{n:Nat}:D.slice (ints []) (List.replicate n (ints []))=aW (List.replicate n []):=by simp[aW,U]
theorem SP{n:Nat}:D.slice (kB []) (List.replicate n (kB []))=sM (List.replicate n []):=by simp[sM,U]
theorem SY{n:Nat}:D.slice (fF []) (List.replicate n (fF []))=u6 (List.replicate n []):=by simp[u6,U]
theorem SU{n:Nat}:D.slice (aW []) (List.replicate n (aW []))=nI (List.replicate n []):=by simp[nI,U]
theorem UZ:D.slice (ints []) []=aW []:=rfl
theorem UW:D.slice (kB []) []=sM []:=rfl
theorem U3:D.slice (fF []) []=u6 []:=rfl
theorem U0:D.slice (aW []) []=nI []:=rfl
theorem U1:D.slice (nI []) []=D0 []:=rfl
def mK{α β:Type}(f:α->D)(l:List (α×β)):List D:=l.map fun e=>f e.1
def mV{α β:Type}(g:β->D)(l:List (α×β)):List D:=l.map fun e=>g e.2
def bC{α β:Type}(f:α->D)(g:β->D)(l:List (α×β)):D:=.mp (mK f l) (mV g l)
section maps
variable{α β:Type}{f:α->D}{g:β->D}{l:List (α×β)}{a:α}{b:β}
def dG[BEq α](l:List (α×β))(a:α):Option Nat:=l.findIdx? fun e=>a == e.1
def iR[BEq α](l:List (α×β))(a:α)(z:β):β:=((l.find? fun e=>a == e.1).map (·.2)).getD z
def j9[BEq α](l:List (α×β))(a:α):Bool:=l.any fun e=>a == e.1
def fR[BEq α](l:List (α×β))(a:α)(b:β):List (α×β) :=
 match dG l a with
 | some i=>l.set i ((l.getD i (a,b)).1,b)
 | none=>l++[(a,b)]
theorem Xb:D.mp [] []=bC f g []:=rfl
theorem OD:D.mp (mK f l) (mV g l)=bC f g l:=rfl
theorem OJ:(bC f g l).jz=some (mK f l,mV g l):=rfl
theorem OK:(bC f g l).pH=some (mK f l,mV g l):=rfl
theorem N7:(mK f l).length=l.length:=by simp[mK]
theorem OF:(bC f g l).isAgg=false:=rfl
theorem OB:(bC f g l).core=bC f g l:=by simp[bC,D.core]
theorem OE:(bC f g l).gate=true:=rfl
theorem OC{k:Nat}{p:Path}:cQ k p (bC f g l)=.sub k p:=rfl
theorem OO{k:Nat}:b6 k (bC f g l)=bC f g l:=rfl
theorem Oy{k:Nat}{p:Path}:o5 k p (bC f g l)=bC f g l:=rfl
theorem OV:(bC f g l).un=bC f g l:=rfl
theorem Ow:(bC f g l).cells=[bC f g l]:=rfl
theorem Ov:(bC f g l).oR=false:=rfl
theorem Ox:(bC f g l).cellsOf=some [bC f g l]:=rfl
theorem OG:(bC f g l).isObj=false:=rfl
theorem ON:(bC f g l).ca=true:=rfl
theorem OI{q:D->Bool}:(bC f g l).kill q=bC f g l:=rfl
theorem OS{σ:Nat->Nat}:(bC f g l).an σ=bC f g l:=rfl
theorem OR{Q:D->Prop}:(bC f g l).refs Q=True:=rfl
theorem Oz:aM (bC f g l)=.o (bC f g l):=rfl
theorem OA:aM (.vw (bC f g l))=bC f g l:=rfl
theorem OP:(bC f g l).pc=true:=rfl
theorem OQ:(bC f g l).fb=some (bC f g l):=rfl
theorem OM:(bC f g l).ba=true:=rfl
theorem OU:(bC f g l).tight=false:=rfl
theorem OH:(bC f g l).px=false:=rfl
theorem OL:(bC f g l).pI=false:=rfl
theorem EL[BEq α](h:∀a b,kQ (f a) (f b)=some (a == b)):eZ (f a) (mK f l)=some (dG l a):=by
 unfold mK dG;induction l with
 | nil=>rfl
 | cons e r ih =>
  simp only[List.map_cons,eZ,h,Option.bind_some,ih,List.findIdx?_cons];cases a == e.1<;>rfl
theorem N9{l:List (List UInt8×β)}{a:List UInt8}:eZ (.str a) (mK D.str l)=some (dG l a):=EL fun _ _=>rfl
theorem N8{k:IntKind}{l:List (Int×β)}{a:Int}:eZ (.int k a) (mK (D.int k) l)=some (dG l a):=EL fun a b=>by simp[kQ]
theorem tM[BEq α]:cz (f a) (g b) (mK f l) (mV g l) (dG l a)=(mK f (fR l a b),mV g (fR l a b)):=by
 unfold fR mK mV;cases h:dG l a with
 | none=>simp[cz]
 | some i =>
  have hi:i<l.length:=by
   unfold dG at h;rw[List.findIdx?_eq_some_iff_findIdx_eq] at h;exact h.1
  simp only[cz,List.map_set];congr 1;have:f (l.getD i (a,b)).1=(l.map fun e=>f e.1)[i]'(by simpa using hi):=by simp[List.getD_eq_getElem?_getD,hi]
  rw[this,List.set_getElem_self]
theorem EP[BEq α]{z:β}:iS (g z) (mV g l) (dG l a)=g (iR l a z):=by
 unfold dG iR mV;induction l with
 | nil=>rfl
 | cons e r ih =>
  rw[List.findIdx?_cons,List.find?_cons];cases h:a == e.1 with
  | true=>simp[iS]
  | false =>
   simp only[Bool.false_eq_true,if_false] at ih|-
   rw[<-ih];cases r.findIdx? (fun e=>a == e.1)<;>simp[iS]
theorem Ob[BEq α]:(dG l a).isSome=j9 l a:=by
 unfold dG j9;rw[List.findIdx?_isSome]
theorem O3[BEq α]{k:IntKind}{l:List (α×Int)}{z:Int}:iS (.int k z) (mV (D.int k) l) (dG l a)=.int k (iR l a z):=EP
theorem O2[BEq α]{l:List (α×Bool)}{z:Bool}:iS (.bool z) (mV D.bool l) (dG l a)=.bool (iR l a z):=EP
theorem OZ{k:IntKind}{l:List (List UInt8×Int)}{a:List UInt8}{b:Int}:cz (.str a) (.int k b) (mK D.str l) (mV (D.int k) l) (dG l a)=(mK D.str (fR l a b),mV (D.int k) (fR l a b)):=tM
theorem OY{l:List (List UInt8×Bool)}{a:List UInt8}{b:Bool}:cz (.str a) (.bool b) (mK D.str l) (mV D.bool l) (dG l a)=(mK D.str (fR l a b),mV D.bool (fR l a b)):=tM
theorem OX{j k:IntKind}{l:List (Int×Int)}{a b:Int}:cz (.int j a) (.int k b) (mK (D.int j) l) (mV (D.int k) l) (dG l a)=(mK (D.int j) (fR l a b),mV (D.int k) (fR l a b)):=tM
theorem OW{j:IntKind}{l:List (Int×Bool)}{a:Int}{b:Bool}:cz (.int j a) (.bool b) (mK (D.int j) l) (mV D.bool l) (dG l a)=(mK (D.int j) (fR l a b),mV D.bool (fR l a b)):=tM
end maps
abbrev Cw(s:List UInt8):List Int:=s.map fun b=>(b.toNat:Int)
def byteOf(n:Int):UInt8:=UInt8.ofNat n.toNat
theorem Lf{s:List UInt8}:qP s=bytes (Cw s):=by simp[qP,bytes,U,Cw,Function.comp_def]
theorem Cx:∀{l:List Int},bytesOf (l.map (D.int .u8))=some (l.map byteOf)
 | []=>rfl
 | a::r=>by simp only[List.map_cons,bytesOf,Cx (l:=r),Option.bind_some];rfl
theorem Lh{l:List Int}:(U (D.int .u8) 0 l).kD=some (l.map byteOf):=Cx
attribute [go_sem] OD OJ OK N7 OF OB OE OC OO Oy OV Ow Ox OG ON OI OS OR Oz OA OP OQ OM OU OH OL
 N9 N8 Ob O3 O2 OZ OY OX OW Lf Lh List.head?_cons
section
variable{P:Program}{K:St->Prop}{E:Ex}{st st':St}{env env':List D}
@[congr] theorem Xx[Mode]{c:C}{K:List D->Prop}(h:env=env'):bF P c K E env=bF P c K E env':=by rw[h]
@[congr] theorem Xy[Mode]{l:List a6}(h:st=st'):bU P K l st=bU P K l st':=by rw[h]
@[congr] theorem Xj[Mode]{k:Kp}{g g':Option Bool}(hg:g=g')(h:st=st'):a7 P k g K st=a7 P k g' K st':=by rw[h,hg]
@[congr] theorem Xo{r r':Option PR}{g g':Option Bool}(h:r=r')(hg:g=g'):gw r g K st=gw r' g' K st:=by rw[h,hg]
@[congr] theorem Xd{r r':Option PR}{g g':Option Bool}(h:r=r')(hg:g=g'):eN r g K st=eN r' g' K st:=by rw[h,hg]
@[congr] theorem WX{v v':Option Bool}{K:Bool->Prop}(h:v=v'):jq v K=jq v' K:=by rw[h]
@[congr] theorem WK{v v':D}{A B:Prop}(h:v=v'):iH v A B=iH v' A B:=by rw[h]
@[congr] theorem Xk{α:Type}{v v':Option α}{K:α->Prop}(h:v=v'):cA v K=cA v' K:=by rw[h]
@[congr] theorem Wy{j:Nat}{x x':D}(h:x=x'):lQ j x K st=lQ j x' K st:=by rw[h]
@[congr] theorem Wz{j:Nat}{x x':D}(h:x=x'):ky j x K st=ky j x' K st:=by rw[h]
@[congr] theorem Wx{j:Nat}{x x':D}(h:x=x'):oU j x K st=oU j x' K st:=by rw[h]
@[congr] theorem Wq{x x':D}{K:D->St->Prop}(h:x=x')(hs:st=st'):aw x K st=aw x' K st':=by rw[h,hs]
@[congr] theorem Wr{x x':List D}{K:List D->St->Prop}(h:x=x')(hs:st=st'):bP x K st=bP x' K st':=by rw[h,hs]
@[congr] theorem Xv{k:Nat}{p p':Path}{K:D->St->Prop}(h:p=p')(hs:st=st'):dL k p K st=dL k p' K st':=by rw[h,hs]
@[congr] theorem WB{x x':D}{K:D->St->Prop}(h:x=x')(hs:st=st'):gE x K st=gE x' K st':=by rw[h,hs]
@[congr] theorem Xu{b b':Bool}{n k:Nat}{p:Path}{x x':D}(h:b=b')(hs:x=x'):qm b n k p x K st=qm b' n k p x' K st:=by rw[h,hs]
@[congr] theorem Xs{n:Nat}{a a' x x':D}(h:a=a')(hs:x=x'):mU n a x K st=mU n a' x' K st:=by rw[h,hs]
@[congr] theorem Xt{b b':Bool}{n k:Nat}{p:Path}{x x':D}(h:b=b')(hs:x=x'):lD b n k p x K st=lD b' n k p x' K st:=by rw[h,hs]
@[congr] theorem Xr{k:Nat}{p:Path}{x x':D}(hs:x=x'):oI k p x K st=oI k p x' K st:=by rw[hs]
@[congr] theorem Xq{n:Nat}{a a' x x':D}(h:a=a')(hs:x=x'):jI n a x K st=jI n a' x' K st:=by rw[h,hs]
@[congr] theorem Wv{n m:Nat}{a a' x x':D}(h:a=a')(hs:x=x'):nq n m a x K st=nq n m a' x' K st:=by rw[h,hs]
@[congr] theorem WG[Mode]{f:FuncId}{ds ds':Option (List D)}{gt gt':Bool}{pl pl':Prop}{g g':Option Bool}{K:KH}(h1:ds=ds')(h2:gt=gt')(h3:pl=pl')(h:g=g')(hs:st=st'):jS P f ds gt pl g st=jS P f ds' gt' pl' g' st':=by rw[h1,h2,h3,h,hs]
@[congr] theorem W0[Mode]{f:FuncId}{d d':D}{ds ds':Option (List D)}{gt gt':Bool}{pl pl':Prop}{g g':Option Bool}{K:KH}(h0:d=d')(h1:ds=ds')(h2:gt=gt')(h3:pl=pl')(h:g=g')(hs:st=st'):ju P f d ds gt pl g st=ju P f d' ds' gt' pl' g' st':=by rw[h0,h1,h2,h3,h,hs]
@[congr] theorem WU{l l' ys ys':List D}{K:St->Prop}(h0:l=l')(h1:ys=ys')(hs:st=st'):eL l ys K st=eL l' ys' K st':=by rw[h0,h1,hs]
@[congr] theorem WS{x x' y y':D}{r r':List D}{K:St->Prop}(h0:x=x')(h1:y=y')(h2:r=r')(hs:st=st'):pf x r y K st=pf x' r' y' K st':=by rw[h0,h1,h2,hs]
@[congr] theorem WV[Mode]{f:FuncId}{ds ds':List D}{gt gt':Bool}{g g':Bool}{K:KH}(h1:ds=ds')(h2:gt=gt')(h:g=g')(hs:st=st'):jX P f ds gt g st=jX P f ds' gt' g' st':=by rw[h1,h2,h,hs]
@[congr] theorem WN[Mode]{x x':D}{ds ds':List D}{gt gt':Bool}{g g':Bool}{K:KH}(h0:x=x')(h1:ds=ds')(h2:gt=gt')(h:g=g')(hs:st=st'):jU P x ds gt g st=jU P x' ds' gt' g' st':=by rw[h0,h1,h2,h,hs]
@[congr] theorem WD{x x':D}{K:D->St->Prop}(h:x=x')(hs:st=st'):jR x K st=jR x' K st':=by rw[h,hs]
@[congr] theorem Xw{d d' l l':List D}{K:List D->St->Prop}(h:d=d')(h':l=l')(hs:st=st'):fh d l K st=fh d' l' K st':=by rw[h,h',hs]
@[congr] theorem WE{n:Nat}{x x':D}(h:x=x')(hs:st=st'):oZ n x K st=oZ n x' K st':=by rw[h,hs]
@[congr] theorem WC{z x x':D}(h:x=x')(hs:st=st'):oX z x K st=oX z x' K st':=by rw[h,hs]
@[congr] theorem WL{x x' y y':D}{K:KH}(h:x=x')(h':y=y')(hs:st=st'):o7 x y st=o7 x' y' st':=by rw[h,h',hs]
@[congr] theorem Xc{kk:Nat}{x x' y y' z z':D}{K:KH}(h:x=x')(h':y=y')(h2:z=z')(hs:st=st'):nS kk x y z st=nS kk x' y' z' st':=by rw[h,h',h2,hs]
@[congr] theorem Xi{j:Nat}{K:KH}(hs:st=st'):nW j st=nW j st':=by rw[hs]
@[congr] theorem WO[Mode]{x x':D}{ds ds':List D}{gt gt':Bool}{g g':Option Bool}{K:KH}(h0:x=x')(h1:ds=ds')(h2:gt=gt')(h:g=g')(hs:st=st'):iJ P x ds gt g st=iJ P x' ds' gt' g' st':=by rw[h0,h1,h2,h,hs]
@[congr] theorem W6{h:LH}(he:env=env'):tF env=tF env':=by rw[he]
end
attribute [go_sem] bF.eq_1 bF.eq_2 bF.eq_3 bF.eq_4 bF.eq_5 bF.eq_6 bF.eq_7 bF.eq_8 bF.eq_9 bF.eq_10 bF.eq_11 bU.eq_1 bU.eq_2 bU.eq_3 a7.eq_1 a7.eq_2 a7.eq_3 a7.eq_4 a7.eq_5 a7.eq_6 a7.eq_7
  a7.eq_8 a7.eq_9 a7.eq_10 a7.eq_11 a7.eq_12 a7.eq_13 a7.eq_14 a7.eq_15 a7.eq_16 a7.eq_17 a7.eq_18 a7.eq_19 a7.eq_20 a7.eq_21 a7.eq_22 a7.eq_23 a7.eq_24 a7.eq_25 a7.eq_26 a7.eq_27 a7.eq_28
  gw.eq_1 gw.eq_2 eN.eq_1 eN.eq_2 bN.eq_1 bN.eq_2 bN.eq_3 bN.eq_4 bN.eq_5 bN.eq_6 bN.eq_7 bN.eq_8 bN.eq_9 kj.eq_1 kj.eq_2 oN.eq_1 oN.eq_2 lQ.eq_1 oU.eq_1 ky.eq_1 ky.eq_2 iB.eq_1
  iB.eq_2 iB.eq_3 kU.eq_1 kU.eq_2 kU.eq_3 D.re.eq_1 D.re.eq_2 D.ca.eq_1 D.ca.eq_2 D.ca.eq_3 D.ca.eq_4 D.ca.eq_5 rB.eq_1 rB.eq_2 D.mC.eq_1 D.mC.eq_2 D.mC.eq_3 D.mC.eq_4 D.mC.eq_5
  D.mC.eq_6 aw.eq_1 aw.eq_2 aw.eq_3 aw.eq_4 aw.eq_5 aw.eq_6 aw.eq_7 aw.eq_8 aw.eq_9 aw.eq_10 aw.eq_11 aw.eq_12 aw.eq_13 aw.eq_14 aw.eq_15 bP.eq_1 bP.eq_2 dL.eq_1 dL.eq_2 gE.eq_1
  gE.eq_2 gE.eq_3 jI.eq_1 jI.eq_2 lD.eq_1 lD.eq_2 oI.eq_1 D.oR.eq_1 D.oR.eq_2 Ni Ov nq.eq_1 aM.eq_1 aM.eq_2 aM.eq_3 aM.eq_4 aM.eq_5 aM.eq_6 aM.eq_7 aM.eq_8 aM.eq_9 aM.eq_10 aM.eq_11 aM.eq_12 aM.eq_13 aM.eq_14
  aM.eq_15 aM.eq_16 aM.eq_17 bz.eq_1 bz.eq_2 bz.eq_3 bz.eq_4 bz.eq_5 bz.eq_6 bz.eq_7 bz.eq_8 bz.eq_9 bz.eq_10 bz.eq_11 bz.eq_12 bz.eq_13 bz.eq_14 bz.eq_15 bz.eq_16 bz.eq_17 bz.eq_18 bz.eq_19
  bz.eq_20 bz.eq_21 bz.eq_22 bz.eq_23 bz.eq_24 bz.eq_25 bz.eq_26 bz.eq_27 bz.eq_28 bz.eq_29 g1.eq_1 g1.eq_2 g2.eq_1 g2.eq_2 one.eq_1 St.rd.eq_1 St.rd.eq_2 St.rd.eq_3 St.rd.eq_4 St.rd.eq_5 St.cont.eq_1 St.put.eq_1
  St.push.eq_1 St.kill.eq_1 b6.eq_1 b6.eq_2 b6.eq_3 b6.eq_4 cQ.eq_1 cQ.eq_2 cQ.eq_3 cQ.eq_4 cQ.eq_5 cQ.eq_6 cQ.eq_7 cQ.eq_8 cQ.eq_9 cQ.eq_10 cQ.eq_11 cQ.eq_12 cQ.eq_13 cQ.eq_14 cQ.eq_15 jm.eq_1
  jm.eq_2 nth.eq_1 nth.eq_2 nth.eq_3 ek.eq_1 ek.eq_2 ek.eq_3 dE.eq_1 dE.eq_2 D.kill.eq_1 D.kill.eq_2 D.kill.eq_3 D.kill.eq_4 D.kill.eq_5 D.kill.eq_6 D.kill.eq_7 D.kill.eq_8 D.kill.eq_9 D.kill.eq_10 D.core.eq_1
  D.core.eq_2 D.gate.eq_1 D.gate.eq_2 qK.eq_1 qK.eq_2 qK.eq_3 sJ.eq_1 sJ.eq_2 uW.eq_1 uW.eq_2 tJ.eq_1 tJ.eq_2 la.eq_1 la.eq_2 fN.eq_1 fN.eq_2 fN.eq_3 fN.eq_4 fN.eq_5 fN.eq_6 fN.eq_7
  fN.eq_8 fN.eq_9 fN.eq_10 fN.eq_11 fN.eq_12 fN.eq_13 jK.eq_1 jK.eq_2 jK.eq_3 jK.eq_4 jK.eq_5 jK.eq_6 jK.eq_7 jK.eq_8 oY.eq_1 oY.eq_2 oY.eq_3 j8.eq_1
  j8.eq_2 tB.eq_1 tB.eq_2 me.eq_1 me.eq_2 me.eq_3 mh.eq_1 mh.eq_2 mh.eq_3 mi.eq_1 mi.eq_2 mi.eq_3 lZ.eq_1 lZ.eq_2 lZ.eq_3 s8.eq_1 s8.eq_2 s9.eq_1 s9.eq_2 tV.eq_1 tV.eq_2 sR.eq_1
  sR.eq_2 uv.eq_1 uv.eq_2 my.eq_1 my.eq_2 vU.eq_1 vS.eq_1 xp.eq_1 qL.eq_1 qL.eq_2 qL.eq_3 l6.eq_1 l6.eq_2 l7.eq_1 l7.eq_2 setCells.eq_1 setCells.eq_2 D.cellsOf.eq_1 D.cellsOf.eq_2
  D.cellsOf.eq_3 D.cellsOf.eq_4 D.cellsOf.eq_5 D.cellsOf.eq_6 D.cellsOf.eq_7 D.cellsOf.eq_8 D.cellsOf.eq_9 dF.eq_1 dF.eq_2 D.pW.eq_1 D.pW.eq_2 aV.eq_1 aV.eq_2 aV.eq_3 aV.eq_4 aV.eq_5 aV.eq_6 aV.eq_7 aV.eq_8 aV.eq_9 aV.eq_10
  aV.eq_11 aV.eq_12 aV.eq_13 aV.eq_14 gJ.eq_1 gJ.eq_2 db.eq_1 db.eq_2 iH.eq_1 iH.eq_2 cL.eq_1 cL.eq_2 jl.eq_1 jl.eq_2 jD.eq_1 jD.eq_2 jD.eq_3 yg.eq_1 yg.eq_2 iu.eq_1 iu.eq_2
  fin.eq_1 jq.eq_1 jq.eq_2 gd.eq_1 cA.eq_1 cA.eq_2 isRow.eq_1 isRow.eq_2 nT.eq_1 nT.eq_2 nT.eq_3 D.xt.eq_1 D.xt.eq_2 D.pI.eq_1 D.pI.eq_2 D.px.eq_1 D.px.eq_2 D.gu.eq_1 D.gu.eq_2 D.gu.eq_3
  D.gu.eq_4 D.gu.eq_5 D.gu.eq_6 D.gu.eq_7 D.gu.eq_8 D.gu.eq_9 D.gu.eq_10 D.gu.eq_11 nZ.eq_1 nZ.eq_2 D.xr.eq_1 lC.eq_1 lC.eq_2 sF.eq_1 D.row?.eq_1 D.row?.eq_2 D.ia.eq_1 D.ia.eq_2 D.ia.eq_3
  D.o?.eq_1 D.o?.eq_2 D.gy.eq_1 D.gy.eq_2 D.gy.eq_3 D.gy.eq_4 D.gy.eq_5 D.gy.eq_6 D.gy.eq_7 D.gy.eq_8 D.gy.eq_9 D.gy.eq_10 oy.eq_1 oy.eq_2 D.qO.eq_1 D.qO.eq_2 mU.eq_1 mU.eq_2 qm.eq_1 qm.eq_2 nN.eq_1 nN.eq_2 nN.eq_3 D.iz.eq_1 D.iz.eq_2
  D.iz.eq_3 D.iz.eq_4 D.sd.eq_1 D.sd.eq_2 D.eD.eq_1 D.eD.eq_2 D.eD.eq_3 D.eD.eq_4 D.eD.eq_5 D.eD.eq_6 D.eD.eq_7 D.eD.eq_8 D.pR.eq_1 D.pR.eq_2 D.int?.eq_1 D.int?.eq_2 D.mW.eq_1 D.mW.eq_2 D.bool?.eq_1 D.bool?.eq_2 D.qF.eq_1 D.qF.eq_2
  D.qF.eq_3 D.pc.eq_1 D.pc.eq_2 D.pc.eq_3 D.pc.eq_4 D.pc.eq_5 D.pc.eq_6 D.pc.eq_7 D.pc.eq_8 D.pc.eq_9 qo.eq_1 qo.eq_2 D.fb.eq_1 D.fb.eq_2 D.fb.eq_3 D.fb.eq_4 D.fb.eq_5 D.fb.eq_6 D.fb.eq_7
  D.fb.eq_8 D.fb.eq_9 D.fb.eq_10 D.fb.eq_11 D.fb.eq_12 D.fb.eq_13 oc.eq_1 oc.eq_2 tl.eq_1 tl.eq_2 s7.eq_1 s7.eq_2 mn.eq_1 mn.eq_2 mn.eq_3 mn.eq_4 s6.eq_1 s6.eq_2 gI.eq_1 gI.eq_2
  gI.eq_3 gI.eq_4 gI.eq_5 zu.eq_1 uZ.eq_1 mZ.eq_1 mZ.eq_2 jQ.eq_1 jQ.eq_2 lT.eq_1 lT.eq_2 bump.eq_1 bump.eq_2 bump.eq_3 looks.eq_1 looks.eq_2 qZ.eq_1 qZ.eq_2 nQ.eq_1 o5.eq_1 o5.eq_2
  D.refs.eq_1 D.refs.eq_2 D.refs.eq_3 D.refs.eq_4 D.refs.eq_5 D.refs.eq_6 D.refs.eq_7 D.refs.eq_8 D.refs.eq_9 D.refs.eq_10 bE.eq_1 bE.eq_2 mN.eq_1 mN.eq_2 y9.eq_1 y9.eq_2 lP.eq_1 lP.eq_2 lP.eq_3
  apart.eq_1 apart.eq_2 apart.eq_3 b9.eq_1 b9.eq_2 b9.eq_3 c8.eq_1 jF.eq_1 jF.eq_2 aQ.eq_1 aQ.eq_2 aQ.eq_3 bB.eq_1 bB.eq_2 bB.eq_3 bd.eq_1 bd.eq_2 bd.eq_3 gh.eq_1 gh.eq_2 gh.eq_3
  jo.eq_1 jo.eq_2 jo.eq_3 dZ.eq_1 D.hole.eq_1 D.wL.eq_1 pf.eq_1 pf.eq_2 eL.eq_1 eL.eq_2 eL.eq_3 eP.eq_1 eP.eq_2 eP.eq_3 D.bW.eq_1 D.bW.eq_2 D.bW.eq_3 D.bW.eq_4 D.iL.eq_1 D.iL.eq_2 D.cells.eq_1
  D.cells.eq_2 lk.eq_1 D.isObj.eq_1 D.isObj.eq_2 D.isObj.eq_3 D.isObj.eq_4 D.gK.eq_1 D.gK.eq_2 D.a8.eq_1 D.at.eq_1 D.at.eq_2 D.aS.eq_1 D.du.eq_1 D.du.eq_2 D.du.eq_3 D.du.eq_4 D.du.eq_5 D.du.eq_6 D.du.eq_7
  D.un.eq_1 D.un.eq_2 bc.eq_1 bc.eq_2 D.aT.eq_1 D.aT.eq_2 D.aT.eq_3 D.aT.eq_4 D.aT.eq_5 D.aT.eq_6 D.has.eq_1 D.has.eq_2 D.jZ.eq_1 D.ey.eq_1 D.ey.eq_2 D.ey.eq_3 D.ey.eq_4 D.ey.eq_5
  D.ey.eq_6 D.ey.eq_7 D.setAt.eq_1 D.setAt.eq_2 D.eF.eq_1 D.eF.eq_2 D.cR.eq_1 D.cR.eq_2 D.cR.eq_3 D.cR.eq_4 D.cR.eq_5 D.cR.eq_6 D.cR.eq_7 eo.eq_1 eo.eq_2 cX.eq_1
  cX.eq_2 lj.eq_1 lj.eq_2 eO.eq_1 eO.eq_2 eO.eq_3 eO.eq_4 dv.eq_1 dv.eq_2 dv.eq_3 D.gM.eq_1 D.gM.eq_2 D.gM.eq_3 jB.eq_1 D.isAgg.eq_1 D.isAgg.eq_2 D.bR.eq_1 D.bR.eq_2 D.bR.eq_3
  D.bR.eq_4 D.cZ.eq_1 D.cZ.eq_2 D.gb.eq_1 D.gb.eq_2 D.gb.eq_3 D.cut.eq_1 D.cut.eq_2 D.cut.eq_3 D.cut.eq_4 D.ba.eq_1 D.ba.eq_2 D.ba.eq_3 D.ba.eq_4 D.ba.eq_5 D.ba.eq_6 D.ba.eq_7 dH.eq_1 dH.eq_2
  iJ.eq_1 iJ.eq_2 iJ.eq_3 jU.eq_1 jU.eq_2 jR.eq_1 jR.eq_2 fh.eq_1 fh.eq_2 fh.eq_3 oZ.eq_1 oX.eq_1 qU.eq_1 qU.eq_2 iy.eq_1 iy.eq_2 vP.eq_1 nS.eq_1 nS.eq_2 nS.eq_3
  nW.eq_1 D.rh.eq_1 D.rh.eq_2 pK.eq_1 pK.eq_2 pK.eq_3 bz.eq_30 bz.eq_31 rr.eq_1 rr.eq_2 xn.eq_1 yY.eq_1 four.eq_1 four.eq_2 four.eq_3 four.eq_4 four.eq_5 yZ.eq_1 yZ.eq_2 wi.eq_1 kQ.eq_1 kQ.eq_2 kQ.eq_3 kQ.eq_4 eZ.eq_1 eZ.eq_2
  D.jz.eq_1 D.jz.eq_2 D.pH.eq_1 D.pH.eq_2 D.pH.eq_3 mapOf.eq_1 mapOf.eq_2 D.jx.eq_1 D.jx.eq_2 D.jx.eq_3 D.jx.eq_4 iS.eq_1 iS.eq_2 tH.eq_1 tA.eq_1 cz.eq_1 cz.eq_2 D.kD.eq_1 D.kD.eq_2 D.kD.eq_3
  D.kD.eq_4 o9.eq_1 o9.eq_2 ei.eq_1 ei.eq_2 D.an.eq_1 D.an.eq_2 D.an.eq_3 D.an.eq_4 D.an.eq_5 D.an.eq_6 D.an.eq_7 D.an.eq_8 D.an.eq_9 D.an.eq_10 cV.eq_1 cV.eq_2 iQ.eq_1 iQ.eq_2 iQ.eq_3 iG.eq_1
  iG.eq_2 iG.eq_3 uT.eq_1 uT.eq_2 uS.eq_1 uS.eq_2 oh.eq_1 oh.eq_2 oh.eq_3 qG.eq_1 qG.eq_2 fc.eq_1 fc.eq_2 iT.eq_1 iT.eq_2 iT.eq_3 D.tight.eq_1 D.tight.eq_2 D.tight.eq_3 D.tight.eq_4 D.tight.eq_5
  D.tight.eq_6 D.tight.eq_7 D.tight.eq_8 D.tight.eq_9 D.tight.eq_10 D.tight.eq_11 D.tight.eq_12 kq.eq_1 kq.eq_2 D.qp.eq_1 D.qp.eq_2 qq.eq_1 qq.eq_2 D.gA.eq_1 D.gA.eq_2 D.gA.eq_3 jd.eq_1
  jd.eq_2
 EA Ey Option.elim_none Option.elim_some N2 Nl Nn Ns Nx N5 NP Nw NG EC Ez Nz NM Nj kY Nk Nv NB NC NZ NN NU NH NV NW N4 Nq NQ Nh Nt Ny NI NA N1 ND NF NK NO NJ Nu NX EB NT NY NR NS Nr
 UY UX UU U2 UZ UW U3 U0 U1 SR SQ SO SX SS SP SY SU
 Option.bind_some Option.map_some Option.bind_none Option.map_none Option.some.injEq if_true if_false true_and and_true Bool.true_and Bool.and_true Bool.and_self Bool.false_and Bool.and_false Bool.not_true Bool.not_false List.drop_zero List.drop_succ_cons List.take_succ_cons List.take_zero List.length_cons List.length_nil List.replicate_succ List.replicate_zero List.map_cons List.map_nil
 List.getD_cons_zero List.getD_cons_succ List.set_cons_zero List.set_cons_succ List.cons_append List.nil_append List.append_nil List.isEmpty_nil List.isEmpty_cons
 reduceCtorEq decide_true decide_false implies_true true_implies false_implies and_self ne_eq not_false_eq_true not_true_eq_false beq_iff_eq true_or or_true false_or or_false eq_self Bool.false_eq_true decide_eq_true_eq decide_eq_false_iff_not Nat.zero_add Nat.add_zero imp_self
end Go.D3
namespace Go.D3
open Go
def rA(k:IntKind)(n:Int):Bool:=decide (k.min<=n)&&decide (n<=k.max)
theorem nX{k:IntKind}{n:Int}(h:rA k n=true):k.has n:=by
 simp[rA] at h;exact h
def cT(P:Program)(t:TypeId)(n:Nat):Bool :=
 match P.info? t with
 | some i=>decide (i.size=n)
 | none=>false
def nw(P:Program)(t:TypeId)(n:Nat):Bool :=
 match P.info? t with
 | some i=>decide (i.bytes=n)
 | none=>false
def lO(P:Program)(t:TypeId):Bool:=match P.underlying t with
 | some (.struct _) | some (.array _ _)=>true
 | _=>false
def jT(P:Program)(t:TypeId):Bool:=match P.underlying t with
 | some (.struct _) | some (.array _ _) | none=>false
 | _=>true
def gS(P:Program)(t:TypeId):Option TypeId:=match P.underlying t with
 | some (.slice e)=>some e
 | _=>none
def ib(P:Program)(t:TypeId)(f:Nat):Option (Nat×TypeId):=match P.underlying t with
 | some (.struct fs)=>(fs[f]?).map fun x=>(x.offset,x.type)
 | _=>none
theorem kN{n:Nat}(h:n<=maxLen):IntKind.i64.has (n:Int):=by
 simp only[maxLen] at h;constructor
 ·simp[IntKind.min,IntKind.signed,IntKind.bits]<;>omega
 ·simp[IntKind.max,IntKind.signed,IntKind.bits]<;>omega
theorem vq(k:IntKind)(n:Int):k.has (k.wrap n):=by
 have hs:∀(bits:Nat),True:=fun _=>trivial
 cases k<;>simp only[IntKind.has,IntKind.min,IntKind.max,IntKind.wrap,IntKind.signed,IntKind.bits]<;>simp<;>(first | omega | (split<;>omega))
def Yd(P:Program)(o:Oper)(a:Act)(w:World)(v:Value):Prop:=(execOp a.eval o).run P w=.ok (.value v) w
section
variable{P:Program}{o:Oper}{w:World}{a:Act}
theorem vt{x:Operand}(ho:o.op=.move x\/o.op=.assign x):Yd P o a w (a.eval x):=by
 rcases ho with ho | ho<;>simp[Yd,execOp,ho]
theorem MB{op:BinOp}{k:IntKind}{m n:Int}(hm:k.has m){side:Prop}{d:D}(hb:fN op k m n=some (side,d))(hs:side):∃v,Rd w (fun _=>False) v d /\
  (∀{t u:TypeId}{x y:Operand},o.op=.binOp op t x y u->a.eval x=.int k m->a.eval y=.int k n->Yd P o a w v):=by
 have hg:∀t x y w,(eqGuard op t x y (.int k m) (.int k n)).run P w=.ok () w:=by
  intro t x y w;unfold eqGuard;cases op<;>rfl
 have hq:∀(d:Int),(¬n=0)->(Op.intDiv .quo k m n).run P w=.ok (.int k (k.wrap (m.tdiv n))) w/\(Op.intDiv .rem k m n).run P w=.ok (.int k (m.tmod n)) w:=by
  intro _ h0;constructor<;>simp[Op.intDiv,h0]
 cases op<;>simp only[fN,Option.some.injEq,Prod.mk.injEq,reduceCtorEq] at hb
 case quo =>
  obtain⟨h1,rfl⟩:=hb;rw[<-h1] at hs;refine⟨.int k (k.wrap (m.tdiv n)),Rd.int (vq _ _),fun ho hx hy=>?_⟩;simp[Yd,execOp,ho,hx,hy,hg,binOp,(hq 0 hs).1]
 case rem =>
  obtain⟨h1,rfl⟩:=hb;rw[<-h1] at hs;refine⟨.int k (m.tmod n),Rd.int ?_,fun ho hx hy=>by simp[Yd,execOp,ho,hx,hy,hg,binOp,(hq 0 hs).2]⟩
  have h3:(m.tmod n).natAbs<=m.natAbs:=by
   rw[Int.natAbs_tmod];exact Nat.mod_le _ _
  obtain⟨h4,h5⟩:=hm;have h8:k.min<=0/\0<=k.max:=by cases k<;>simp[IntKind.min,IntKind.max,IntKind.signed,IntKind.bits]
  rcases Int.le_total 0 m with h6 | h6
  ·have h7:=Int.tmod_nonneg n h6
   constructor<;>omega
  ·have h7:m.tmod n<=0:=by
    have:=Int.tmod_nonneg n (show 0<=-m by omega);rw[Int.neg_tmod] at this;omega
   constructor<;>omega
 case and =>
  obtain⟨-,rfl⟩:=hb;refine⟨_,Rd.int (vq _ _),fun ho hx hy=>?_⟩;simp only[Yd,execOp,ho,hx,hy,binOp,ne_eq,not_true_eq_false,if_false];rfl
 all_goals
  obtain⟨-,rfl⟩:=hb
  first
  | exact⟨_,Rd.int (vq _ _),fun ho hx hy=>by simp[Yd,execOp,ho,hx,hy,hg,binOp,Op.intArith]⟩
  | exact⟨_,Rd.bool,fun ho hx hy=>by simp[Yd,execOp,ho,hx,hy,hg,binOp,Op.intCmp]⟩
theorem UL{k:IntKind}{m:Int}(hm:k.has m)(n:Nat):k.has (m.fdiv (2 ^ n)):=by
 have hp:(0:Int)<2 ^ n:=Int.pow_pos (by decide);rw[Int.fdiv_eq_ediv_of_nonneg _ (Int.le_of_lt hp)];obtain⟨h1,h2⟩:=hm;have h0:k.min<=0/\0<=k.max:=by cases k<;>simp[IntKind.min,IntKind.max,IntKind.signed,IntKind.bits]
 constructor
 ·refine(Int.le_ediv_iff_mul_le hp).2 ?_
  have:=Int.mul_le_mul_of_nonpos_left h0.1 (show(1:Int)<=2 ^ n by omega);omega
 ·rcases Int.le_total 0 m with h | h
  ·have:=Int.ediv_le_self (2 ^ n) h
   omega
  ·have:=(Int.ediv_lt_iff_lt_mul hp (a:=m) (b:=1)).2 (by omega)
   omega
theorem Wj{k k':IntKind}{m n:Int}{t u:TypeId}{x y:Operand}(ho:o.op=.binOp .shr t x y u)(hx:a.eval x=.int k m)(hy:a.eval y=.int k' n)(h0 : 0<=n)(h1:n<=k.bits):Yd P o a w (.int k (m.fdiv (2 ^ n.toNat))):=by
 have h2:¬n<0:=by omega
 have h3:min n.toNat k.bits=n.toNat:=by omega
 simp[Yd,execOp,ho,hx,hy,eqGuard,binOp,Op.shift,h2,h3]
theorem Vi{op:BinOp}{m n:List UInt8}{side:Prop}{d:D}(hb:jK op m n=some (side,d))(hs:side):∃v,Rd w (fun _=>False) v d /\
  (∀{t u:TypeId}{x y:Operand},o.op=.binOp op t x y u->a.eval x=.string ⟨m.toArray⟩->a.eval y=.string ⟨n.toArray⟩->Yd P o a w v):=by
 have hg:∀t x y w,(eqGuard op t x y (.string ⟨m.toArray⟩) (.string ⟨n.toArray⟩)).run P w=.ok () w:=by
  intro t x y w;unfold eqGuard;cases op<;>rfl
 have hl:∀l:List UInt8,(⟨l.toArray⟩:ByteArray).toList=l:=fun l=>by rw[ByteArray.toList_eq]
 cases op<;>simp only[jK,Option.some.injEq,Prod.mk.injEq,reduceCtorEq] at hb
 case add =>
  obtain⟨h1,rfl⟩:=hb;rw[<-h1] at hs;refine⟨.string ⟨(m++n).toArray⟩,Rd.str (by simpa using hs),fun ho hx hy=>?_⟩
  have h2:(m.length:Int)+n.length<=9223372036854775807:=by
   simp only[maxLen] at hs;omega
  have h3:(⟨m.toArray⟩++⟨n.toArray⟩:ByteArray)=⟨(m++n).toArray⟩:=by
   apply ByteArray.ext;simp
  have h4:(⟨m.toArray⟩:ByteArray).size=m.length:=rfl;have h5:(⟨n.toArray⟩:ByteArray).size=n.length:=rfl;simp[Yd,execOp,ho,hx,hy,hg,binOp,Op.stringOp,h2,h3,h4,h5]
 all_goals
  obtain⟨-,rfl⟩:=hb;exact⟨_,Rd.bool,fun ho hx hy=>by simp[Yd,execOp,ho,hx,hy,hg,binOp,Op.stringOp,hl]⟩
theorem Ld{op:BinOp}{m n:Bool}{side:Prop}{d:D}(hb:oY op m n=some (side,d)):∃v,Rd w (fun _=>False) v d /\
  (∀{t u:TypeId}{x y:Operand},o.op=.binOp op t x y u->a.eval x=.bool m->a.eval y=.bool n->P.underlying t=some .bool->Yd P o a w v):=by
 have hg:∀t x y w,(eqGuard op t x y (.bool m) (.bool n)).run P w=.ok () w:=by
  intro t x y w;unfold eqGuard;cases op<;>rfl
 cases op<;>simp only[oY,Option.some.injEq,Prod.mk.injEq,reduceCtorEq] at hb
 all_goals
  obtain⟨-,rfl⟩:=hb;exact⟨_,Rd.bool,fun ho hx hy ht=>by simp[Yd,execOp,ho,hx,hy,hg,binOp,Op.equal,Op.maxDepth,run_equalIn_bool' (P:=P) _ _ _ _ _ ht]⟩
theorem Wi{c x y:Operand}(ho:o.op=.pick c x y){cb p q:Bool}(hc:a.eval c=.bool cb)(hx:cb=true->a.eval x=.bool p)(hy:cb=false->a.eval y=.bool q) :
  Yd P o a w (.bool (my cb p q)):=by
 cases cb
 ·simp[Yd,execOp,ho,hc,hy,asBool,my]
 ·simp[Yd,execOp,ho,hc,hx,asBool,my]
theorem Wg{x:Operand}{t:TypeId}(ho:o.op=.unOp .not t x){b:Bool}(hx:a.eval x=.bool b):Yd P o a w (.bool (!b)):=by
 simp[Yd,execOp,ho,hx,Op.unary]
theorem kr{k:IntKind}{n:Int}(h:k.has n):k.wrap n=n:=by
 obtain⟨h1,h2⟩:=h;cases k<;>simp[IntKind.min,IntKind.max,IntKind.wrap,IntKind.signed,IntKind.bits] at *<;>(first | omega | (split<;>omega))
theorem V4{s d:TypeId}{x:Operand}(ho:o.op=.convert s d x){k0 k1 k:IntKind}(h1:P.underlying s=some (.int k1))(h2:P.underlying d=some (.int k)){n:Int}(hx:a.eval x=.int k0 n)(hn:k0.has n) :
  Yd P o a w (.int k (if k0=k then n else k.wrap n))/\k.has (if k0=k then n else k.wrap n):=by
 have:Yd P o a w (.int k (k.wrap n)):=by simp[Yd,execOp,ho,hx,convert,run_underlying h1,run_underlying h2,Conv.intToInt]
 by_cases hk:k0=k
 ·subst hk;simp only[if_true];rw[kr hn] at this;exact⟨this,hn⟩
 ·simp only[hk,if_false];exact⟨this,vq _ _⟩
def tI:Bool->Builtin
 | true=>.max
 | false=>.min
theorem Wf{mx:Bool}{k:IntKind}{m n:Int}{ts:Array TypeId}{x y:Operand}(ho:o.op=.call { callee:=.builtin (tI mx),args:=#[x,y],argTypes:=ts })(hx:a.eval x=.int k m)(hy:a.eval y=.int k n):Yd P o a w (.int k (la mx m n)):=by
 cases mx
 ·simp only[tI] at ho
  have e:(if n<m then n else m)=min m n:=by split<;>omega
  simp[Yd,execOp,ho,hx,hy,resolve,invoke,builtin,Builtin.min_,Builtin.min2,la,e]
 ·simp only[tI] at ho
  have e:(if m<n then n else m)=max m n:=by split<;>omega
  simp[Yd,execOp,ho,hx,hy,resolve,invoke,builtin,Builtin.max_,Builtin.max2,la,e]
theorem Oo{mx:Bool}{k:IntKind}{m n:Int}(hm:k.has m)(hn:k.has n):k.has (la mx m n):=by
 obtain⟨h1,h2⟩:=hm;obtain⟨h3,h4⟩:=hn;cases mx<;>exact⟨by simp only[la];omega,by simp only[la];omega⟩
theorem Wc{t e:TypeId}{x:Operand}(ho:o.op=.call { callee:=.builtin .len,args:=#[x],argTypes:=#[t] })(ht:P.underlying t=some (.slice e)){p:Option Addr}{n c:Nat}
  (hx:a.eval x=.slice p n c):Yd P o a w (.int .i64 n):=by
 simp[Yd,execOp,ho,hx,resolve,invoke,builtin,Builtin.len_,run_underlying ht,goInt]
theorem Wd{t:TypeId}{x:Operand}(ho:o.op=.call { callee:=.builtin .len,args:=#[x],argTypes:=#[t] })(ht:P.underlying t=some .string){l:List UInt8}
  (hx:a.eval x=.string ⟨l.toArray⟩):Yd P o a w (.int .i64 l.length):=by
 simp[Yd,execOp,ho,hx,resolve,invoke,builtin,Builtin.len_,run_underlying ht,goInt];rfl
theorem J6{t e:TypeId}{x i:Operand}(ho:o.op=.indexAddr t x i)(ht:P.underlying t=some (.slice e)){sz:Nat}{inf:TypeInfo}(hi:P.info? e=some inf)(hsz:inf.size=sz)
  {b off n c:Nat} (hx:a.eval x=.slice (some ⟨b,off,none⟩) n c) {k:IntKind} {m:Int} (hm:a.eval i=.int k m) (h0 : 0<=m) (h1:m<n):Yd P o a w (.pointer (some ⟨b,off+m.toNat*sz,none⟩)):=by
 have hadd:(⟨b,off,none⟩:Addr).add (m.toNat*sz)=⟨b,off+m.toNat*sz,none⟩:=by
  unfold Addr.add;split<;>simp_all
 simp[Yd,execOp,ho,hx,hm,Instr.indexAt,asIntOf,run_underlying ht,h0,h1,sizeOf,typeInfo,hi,hsz,hadd]
theorem w4{t:TypeId}(h:jT P t=true):(isAgg t).run P w=.ok false w:=by
 unfold jT at h;cases hu:P.underlying t with
 | none=>simp[hu] at h
 | some d=>cases d<;>simp[hu] at h<;>simp[isAgg,run_underlying hu]
theorem wZ{t:TypeId}(h:lO P t=true):(isAgg t).run P w=.ok true w:=by
 unfold lO at h;cases hu:P.underlying t with
 | none=>simp[hu] at h
 | some d=>cases d<;>simp[hu] at h<;>simp[isAgg,run_underlying hu]
theorem uX{t:TypeId}{n:Nat}(h:cT P t n=true):(sizeOf t).run P w=.ok n w:=by
 unfold cT at h;cases hi:P.info? t with
 | none=>simp[hi] at h
 | some i=>simp[hi] at h;simp[sizeOf,typeInfo,hi,h]
theorem Wa{t:TypeId}{x:Operand}(ho:o.op=.load t x)(ht:jT P t=true){b off:Nat}(hx:a.eval x=.pointer (some ⟨b,off,none⟩)){v:Value}(hc:w.cell? ⟨b,off,none⟩=some v):Yd P o a w v:=by
 simp[Yd,execOp,ho,hx,Instr.loadAt,Instr.sureAddr,loadVar,w4 ht,hc]
theorem Wb{t:TypeId}{x:Operand}{n:Nat}(ho:o.op=.load t x)(ht:lO P t=true)(hn:cT P t n=true){b off:Nat}(hx:a.eval x=.pointer (some ⟨b,off,none⟩)){cs:List Value}
  (hl:cs.length=n) (hc:∀j v,cs[j]?=some v->w.cell? ⟨b,off+j,none⟩=some v):Yd P o a w (.agg cs.toArray):=by
 have h:=run_loadCells_list (P:=P) w ⟨b,off,none⟩ cs (fun j v hj=>by
  have hadd:(⟨b,off,none⟩:Addr).add j=⟨b,off+j,none⟩:=by unfold Addr.add;split<;>simp_all
  rw[hadd];exact hc j v hj)
 simp[Yd,execOp,ho,hx,Instr.loadAt,Instr.sureAddr,loadVar,wZ ht,uX hn,<-hl,h]
theorem vr{t:TypeId}{x:Operand}{f:Nat}(ho:o.op=.fieldAddr t x f){off:Nat}{ft:TypeId}(hf:ib P t f=some (off,ft))(hz:cT P ft 0=false)(hs:(P.info? ft).isSome=true){b k:Nat}
  (hx:a.eval x=.pointer (some ⟨b,k,none⟩)):Yd P o a w (.pointer (some ⟨b,k+off,none⟩)):=by
 unfold ib at hf;cases hu:P.underlying t with
 | none=>simp[hu] at hf
 | some d =>
  cases d<;>simp[hu] at hf;obtain⟨fl,hfl,h1,h2⟩:=hf;subst h2;subst h1;cases hi:P.info? fl.type with
  | none=>simp[hi] at hs
  | some i =>
   have hne:¬i.size=0:=by simpa[cT,hi] using hz
   have hadd:(⟨b,k,none⟩:Addr).add fl.offset=⟨b,k+fl.offset,none⟩:=by unfold Addr.add;split<;>simp_all
   simp[Yd,execOp,ho,hx,Instr.fieldAt,run_underlying hu,hfl,Instr.sureAddr,fieldPlace,sizeOf,typeInfo,hi,hne,hadd]
theorem yh{t:TypeId}(ht:jT P t=true){cs:Array Value}{off:Nat}(h:off<cs.size):(part t cs off).run P w=.ok (cs.getD off undef) w:=by
 simp[part,w4 ht,h]
theorem RD{t:TypeId}{n:Nat}(ht:lO P t=true)(hn:cT P t n=true){cs:Array Value}{off:Nat}:(part t cs off).run P w=.ok (.agg (cs.extract off (off+n))) w:=by
 simp[part,wZ ht,uX hn]
theorem V7{t:TypeId}{x:Operand}{f:Nat}(ho:o.op=.field t x f){off:Nat}{ft:TypeId}(hf:ib P t f=some (off,ft))(hc:jT P ft=true){cs:Array Value}
  (hx:a.eval x=.agg cs) (hoff:off<cs.size):Yd P o a w (cs.getD off undef):=by
 unfold ib at hf;cases hu:P.underlying t with
 | none=>simp[hu] at hf
 | some d =>
  cases d<;>simp[hu] at hf;obtain⟨fl,hfl,h1,h2⟩:=hf;subst h2;subst h1;simp[Yd,execOp,ho,hx,Instr.field,run_underlying hu,hfl,asAgg,yh hc hoff]
theorem V8{t:TypeId}{x:Operand}{f:Nat}(ho:o.op=.field t x f){off n:Nat}{ft:TypeId}(hf:ib P t f=some (off,ft))(hc:lO P ft=true)(hn:cT P ft n=true){cs:Array Value}
  (hx:a.eval x=.agg cs):Yd P o a w (.agg (cs.extract off (off+n))):=by
 unfold ib at hf;cases hu:P.underlying t with
 | none=>simp[hu] at hf
 | some d =>
  cases d<;>simp[hu] at hf;obtain⟨fl,hfl,h1,h2⟩:=hf;subst h2;subst h1;simp[Yd,execOp,ho,hx,Instr.field,run_underlying hu,hfl,asAgg,RD hc hn]
theorem V9{t:TypeId}{x i:Operand}(ho:o.op=.index t x i)(ht:P.underlying t=some .string){l:List UInt8}(hx:a.eval x=.string ⟨l.toArray⟩){k:IntKind}{m:Int}(hm:a.eval i=.int k m)
  (h0 : 0<=m) (h1:m<l.length):Yd P o a w (.int .u8 (l.getD m.toNat 0).toNat)/\IntKind.u8.has ((l.getD m.toNat 0).toNat:Int):=by
 have hlt:m.toNat<l.length:=by omega
 have hs:(⟨l.toArray⟩:ByteArray)[m.toNat]?=some (l.getD m.toNat 0):=by
  show(if h:m.toNat<(⟨l.toArray⟩:ByteArray).size then some _ else none)=_;rw[dif_pos (show m.toNat<(⟨l.toArray⟩:ByteArray).size from hlt)];simp[List.getD,hlt];rfl
 refine⟨?_,?_⟩
 ·simp[Yd,execOp,ho,hx,hm,Instr.index,asIntOf,run_underlying ht,h0,hs]
 ·generalize l.getD m.toNat 0=c
  have:=c.toNat_lt;constructor<;>simp[IntKind.min,IntKind.max,IntKind.signed,IntKind.bits]<;>omega
theorem V6{x:Operand}{i:Nat}(ho:o.op=.extract x i){cs:Array Value}(hx:a.eval x=.tuple cs)(hi:i<cs.size):Yd P o a w (cs.getD i undef):=by
 simp[Yd,execOp,ho,hx,Instr.extract,hi]
theorem vu{x:Operand}(ho:o.op=.nilCheck x){p:Addr}(hx:a.eval x=.pointer (some p)):Yd P o a w (.pointer (some p)):=by
 simp[Yd,execOp,ho,hx]
theorem J7{x:Operand}(ho:o.op=.nilCheck x){f:FuncId}{l r:Array Value}(hx:a.eval x=.func (.func f) l r):Yd P o a w (.func (.func f) l r):=by
 simp[Yd,execOp,ho,hx]
end
end Go.D3
namespace Go.D3
open Go
section
variable{w:World}{ct:Nat->D}{vl:Nat->Value}{A:Nat->Prop}
def Reach(w:World)(ct:Nat->D)(vl:Nat->Value)(k:Nat)(p:Path)(v:Value)(y:D):Prop :=
 ∀q,y.has q->(ct k).aT (p++q)/\aK w (vl k) (ct k) (p++q)=aK w v y q/\(q≠[]->aA w (vl k) (ct k) (p++q)=aA w v y q)
theorem Reach.aS{k:Nat}{p:Path}{v:Value}{y:D}(h:Reach w ct vl k p v y){i off:Nat}(hk:y.jZ i off){u:Value}(hu:b8 w v y i off=some u):Reach w ct vl k (p++[(i,off)]) u (y.aS i off):=by
 intro q hq;obtain⟨h1,h2,h3⟩:=h ((i,off)::q) ⟨hk,hq⟩;rw[List.append_assoc,List.singleton_append];refine⟨h1,?_,fun hne=>?_⟩
 ·rw[h2];simp only[aK,hu,Option.bind_some]
 ·rw[h3 (by simp)]
  cases q with
  | nil=>exact absurd rfl hne
  | cons t q=>simp only[aA,hu,Option.bind_some]
theorem Reach.root{k:Nat}{x:D}{F:Nat->Prop}(hc:ct k=.o x)(h:aj w A (vl k) x F):Reach w ct vl k [] (vl k) x:=by
 intro q hq;rw[List.nil_append,hc];exact⟨hq,(gB h w q).1,fun _=>(gB h w q).2⟩
theorem Reach.part{R:Value->D->Prop}{k:Nat}{F:Nat->Prop}(h:aG w A R (vl k) F (ct k)){p:Path}(hp:(ct k).aT p)(hne:p≠[]){u:Value}(hu:aK w (vl k) (ct k) p=some u){F':Nat->Prop}
  (hlv:bc (ct k) p=true->(ct k).at p=.o ((ct k).a8 p)) (hown:aj w A u ((ct k).a8 p) F'):Reach w ct vl k p u ((ct k).a8 p):=by
 intro q hq
 have hval:∀q,aK w u ((ct k).at p) q=aK w u ((ct k).a8 p) q/\aA w u ((ct k).at p) q=aA w u ((ct k).a8 p) q:=by
  intro q;by_cases hl:(ct k).at p=.o ((ct k).a8 p)
  ·rw[hl];exact gB hown w q
  ·have:(ct k).at p=(ct k).a8 p:=by
    unfold D.a8 at hl|-
    generalize(ct k).at p=z at hl|-
    cases z<;>first | rfl | (exfalso;exact hl rfl)
   rw[this];exact⟨rfl,rfl⟩
 refine⟨?_,?_,fun hq'=>?_⟩
 ·revert hp hlv hq
  unfold D.a8;intro hp hlv hq;cases hc:ct k<;>rw[hc] at hp hlv hq<;>try exact hp.elim
  case row z l=>exact absurd hp hne
  case o x =>
   rw[hc] at h;rw[D.lR h hne] at hq
   have hx:(x.at p).un=x.at p:=by
    obtain⟨_,_,_,g1,g2,_⟩:=aj.splitAt p h hp;exact g2.un.1
   rw[hx] at hq;exact(mc x p q).2 ⟨hp,hq⟩
  case box l =>
   cases p with
   | nil=>exact absurd rfl hne
   | cons s p =>
    obtain⟨i,off⟩:=s;obtain⟨rfl,ho,hp⟩:=hp;have hk:D.aS (.box l) 0 off=l.getD off .dead:=rfl;cases p with
    | nil =>
     cases q with
     | nil=>exact⟨rfl,ho,trivial⟩
     | cons t q =>
      have hat:=hlv rfl;have e:(D.box l).at [(0,off)]=l.getD off .dead:=rfl;rw[e] at hat hq;refine⟨rfl,ho,?_⟩;rw[hat];exact hq
    | cons t p =>
     simp only at hp;split at hp
     ·rename_i y hy
      rw[hc] at h;obtain⟨_,b,cs,e,Fs,h1,h2,h3,h4,h5,h6,h7⟩:=h
      have hget:l[off]?=some (.o y):=by
       rw[List.getD_eq_getElem?_getD,List.getElem?_eq_getElem ho] at hy;rw[List.getElem?_eq_getElem ho];simpa using hy
      have hown':=h4 off _ hget;simp only[bL] at hown';have e:(D.box l).at ((0,off)::t::p)=y.at (t::p):=by rw[D.at,hk,hy,D.lR hown' (by simp)]
      rw[e] at hq
      have hx:(y.at (t::p)).un=y.at (t::p):=by
       obtain⟨_,_,_,g1,g2,_⟩:=aj.splitAt (t::p) hown' hp;exact g2.un.1
      rw[hx] at hq;refine⟨rfl,ho,?_⟩;rw[hy];exact(mc y (t::p) q).2 ⟨hp,hq⟩
     ·exact hp.elim
 ·rw[VM,hu,Option.bind_some];exact(hval q).1
 ·rw[qH w p q _ _ hq',hu,Option.bind_some];exact(hval q).2
theorem wI(k:Nat)(p:Path):∀(l:List D)(j n:Nat),(jm k p j l)[n]?=(l[n]?).map (cQ k (p++[(0,j+n)]))
 | [],j,n=>by simp[jm]
 | x::r,j,0=>by simp[jm]
 | x::r,j,n+1=>by
  simp only[jm,List.getElem?_cons_succ,wI k p r (j+1) n];rw[show j+1+n=j+(n+1) by omega]
theorem wJ(k:Nat)(p:Path):∀(l:List D)(j:Nat),(jm k p j l).length=l.length
 | [],_=>rfl
 | x::r,j=>by simp[jm,wJ k p r]
theorem EE(c:D)(p:Path)(s t:Nat×Nat):bc c (p++[s]++[t])=false:=by
 have:∃a b r,p++[s]++[t]=a::b::r:=by
  cases p with
  | nil=>exact⟨s,t,[],rfl⟩
  | cons a p=>cases p with
   | nil=>exact⟨a,s,[t],rfl⟩
   | cons b p=>exact⟨a,b,p++[s]++[t],rfl⟩
 obtain⟨a,b,r,h⟩:=this;rw[h];cases c<;>rfl
theorem wK{k:Nat}(y:D):∀{p:Path}{v:Value}{F:Nat->Prop},aj w A v y F->(bc (ct k) p=true->((ct k).at p).gK=true)->(∀s,bc (ct k) (p++[s])=false)->Reach w ct vl k p v y->Pl w A (aa w ct vl) v (cQ k p y):=by
 induction y using D.ind with
 | int a n=>intro p v F h _ _ _;cases h with | int h=>exact .rd (.int h)
 | bool b=>intro p v F h _ _ _;cases h;exact .rd .bool
 | str s=>intro p v F h _ _ _;cases h with | str h=>exact .rd (.str h)
 | aP=>intro p v F h _ _ _;cases h;exact .rd .aP
 | fn f caps _=>intro p v F h _ _ _;cases h;exact .rd (.fn rfl (fun j x hx=>by simp at hx))
 | vw x _=>intro p v F h _ _ _;cases h with | vw h=>exact .rd h
 | slice z l _ _ =>
  intro p v F h hS hN hr;obtain⟨h1,h2,_⟩:=hr [] trivial;rw[List.append_nil] at h1 h2;refine .ref ⟨⟨h1,hS⟩,h2,?_⟩;cases h with
  | nil=>exact .inl ⟨_,_,_,rfl⟩
  | slice=>exact .inl ⟨_,_,_,rfl⟩
 | mp ks vs _ _ =>
  intro p v F h hS hN hr;obtain⟨h1,h2,_⟩:=hr [] trivial;rw[List.append_nil] at h1 h2;refine .ref ⟨⟨h1,hS⟩,h2,?_⟩;cases h with
  | mp=>exact .inr ⟨_,rfl⟩
 | bD=>intro p v F h _ _ _;cases h;exact .rd .bD
 | bj=>intro p v F h _ _ _;cases h;exact .rd .bj
 | bK s p=>intro p v F h _ _ _;exact Pl.dead
 | fE n=>intro p v F h _ _ _;exact Pl.dead
 | bp t x _=>intro p v F h _ _ _;cases h with | bp h=>exact .rd (.bp h)
 | ptr l _ =>
  intro p v F h hS hN hr;cases l with
  | nil=>exact Pl.dead
  | cons x r =>
   have hun:=h.un.1;obtain⟨h1,_,h3⟩:=hr [(0,0)] ⟨by unfold D.jZ;rw[hun];exact⟨rfl,by simp⟩,trivial⟩;have h3:=h3 (by simp);simp only[cQ];cases h with
   | ptr Fs hb hs hr' hF hfs hdis =>
    refine .ref ⟨h1,_,h3,?_⟩;simp only[Nat.add_zero]
 | agg l ih =>
  intro p v F h hS hN hr;cases h with
  | @agg cs _ _ Fs hs hr' hfs hdis =>
   refine .agg (by rw[wJ];exact hs) fun j x hx=>?_
   rw[wI,Option.map_eq_some_iff] at hx;obtain⟨y,hy,rfl⟩:=hx;obtain⟨hj,hy'⟩:=List.getElem?_eq_some_iff.1 hy;rw[Nat.zero_add]
   have hk:(D.agg l).aS 0 j=y:=by
    show l.getD j .dead=y;rw[List.getD_eq_getElem?_getD,hy];rfl
   have:=Reach.aS (i:=0) (off:=j) (u:=cs.getD j undef) hr ⟨rfl,hj⟩ rfl;rw[hk] at this;exact ih y (List.mem_of_getElem? hy) (hr' j y hy) (fun hl=>by rw[hN] at hl;cases hl) (fun s=>EE _ _ _ s) this
 | ah l ih =>
  intro p v F h hS hN hr;cases h with
  | @ah cs _ _ Fs hs hr' hfs hdis =>
   refine .ah (by rw[wJ];exact hs) fun j x hx=>?_
   rw[wI,Option.map_eq_some_iff] at hx;obtain⟨y,hy,rfl⟩:=hx;obtain⟨hj,hy'⟩:=List.getElem?_eq_some_iff.1 hy;rw[Nat.zero_add]
   have hk:(D.ah l).aS 0 j=y:=by
    show l.getD j .dead=y;rw[List.getD_eq_getElem?_getD,hy];rfl
   have:=Reach.aS (i:=0) (off:=j) (u:=cs.getD j undef) hr ⟨rfl,hj⟩ rfl;rw[hk] at this;exact ih y (List.mem_of_getElem? hy) (hr' j y hy) (fun hl=>by rw[hN] at hl;cases hl) (fun s=>EE _ _ _ s) this
 | _=>intro p v F h _ _ _;exact Pl.dead
def bV(w:World)(A:Nat->Prop)(R:Value->D->Prop)(v:Value)(d:D):Prop:=(d.gate=true->Pl w A R v d.core)/\(d.gate=false->v=undef)
theorem LO{d:D}(h:∀g x,d≠.when g x):d.core=d/\d.gate=true:=by
 cases d<;>first | exact⟨rfl,rfl⟩ | exact absurd rfl (h _ _)
theorem Pl.og{R:Value->D->Prop}{v:Value}{d:D}(h:Pl w A R v d)(hR:∀v g x,¬R v (.when g x)):bV w A R v d:=by
 have:∀g x,d≠.when g x:=by
  rintro g x rfl;cases h with
  | rd h=>cases h
  | ref h=>exact hR _ _ _ h
 obtain⟨h1,h2⟩:=LO this;exact⟨fun _=>by rw[h1];exact h,fun hh=>by rw[h2] at hh;cases hh⟩
theorem ot(v:Value)(g:Bool)(x:D):¬aa w ct vl v (.when g x):=fun h=>h
theorem mw{k:Nat}{F:Nat->Prop}(h:aG w A (aa w ct vl) (vl k) F (ct k)):bV w A (aa w ct vl) (vl k) (b6 k (ct k)):=by
 cases hc:ct k<;>rw[hc] at h<;>try exact Pl.og h ot
 case o x=>exact Pl.og (wK x h (fun hl=>by rw[hc] at hl;cases hl) (fun s=>by rw[hc];rfl) (Reach.root hc h)) ot
 case box l =>
  obtain⟨h0,b,cs,e,Fs,h1,h2,h3,h4,h5,h6,h7⟩:=h;refine Pl.og (.ref ⟨?_,⟨b,0,none⟩,?_,h1⟩) ot
  ·rw[hc];exact⟨rfl,h0,trivial⟩
  ·rw[hc,h1];rfl
 case row z l =>
  refine Pl.og (.ref ⟨?_,?_,?_⟩) ot
  ·rw[hc];exact⟨rfl,fun hl=>by cases hl⟩
  ·rfl
  ·obtain⟨b,sz,cs,e,h1,_⟩:=h
   exact .inl ⟨_,_,_,h1⟩
 case when g c =>
  obtain⟨h1,h2⟩:=h;have key:∀(c:D),(g=true->Pl w A (aa w ct vl) (vl k) c)->(g=true->bV w A (aa w ct vl) (vl k) c):=fun c h hg=>(h hg).og ot
  have h1:=key c h1;show bV w A _ _ (.when g c);cases g with
  | true=>exact⟨fun hg=>(h1 rfl).1 (by simpa[D.gate] using hg),fun hg=>(h1 rfl).2 (by simpa[D.gate] using hg)⟩
  | false=>exact⟨fun hg=>by simp[D.gate] at hg,fun _=>h2 rfl⟩
theorem ED{c:D}{p:Path}(hp:p≠[])(s:Nat×Nat):bc c (p++[s])=false:=by
 cases p with
 | nil=>exact absurd rfl hp
 | cons a p=>cases p<;>cases c<;>rfl
theorem xl{k:Nat}{F:Nat->Prop}(h:aG w A (aa w ct vl) (vl k) F (ct k)){p:Path}(hp:(ct k).aT p)(hne:p≠[]){a:Addr}(ha:aA w (vl k) (ct k) p=some a) :
  ∃u,w.cell? a=some u/\a.spot=none/\Pl w A (aa w ct vl) u (nQ k (ct k) p):=by
 obtain⟨u,F1,F2,g1,g2,g3,g4,g5,g6,g7⟩:=h.splitAt hp hne;obtain⟨j1,j2,j3,_⟩:=g7 a ha;refine⟨u,j3,j2,?_⟩;unfold nQ fm at *;cases hl:bc (ct k) p with
 | true =>
  rw[hl] at g2;simp only at g2|-
  generalize hc:(ct k).at p=c at g2;cases c<;>try exact g2
  all_goals try exact g2.elim
  case o x =>
   have hd:(ct k).a8 p=x:=by unfold D.a8;rw[hc];rfl
   have:=Reach.part h hp hne g1 (fun _=>by rw[hd,hc]) (by rw[hd];exact g2);rw[hd] at this;exact wK x g2 (fun _=>by rw[hc];rfl) (ED hne) this
 | false =>
  rw[hl] at g2;simp only at g2|-
  have hd:(ct k).a8 p=(ct k).at p:=g2.un.1;have:=Reach.part h hp hne g1 (fun hh=>by rw[hl] at hh;cases hh) (by rw[hd];exact g2);rw[hd] at this;exact wK _ g2 (fun hh=>by rw[hl] at hh;cases hh) (ED hne) this
theorem lE{k:Nat}{F:Nat->Prop}(h:aG w A (aa w ct vl) (vl k) F (ct k)){p:Path}{v:Value}(hr:aa w ct vl v (.sub k p)) :
  (∃z l,ct k=.row z l/\p=[]/\v=vl k)\/(∃F',aj w A v ((ct k).a8 p) F'/\(∀b,F' b->F b)/\Reach w ct vl k p v ((ct k).a8 p)/\(∀z l,ct k≠.row z l)):=by
 obtain⟨⟨h1,hS⟩,h2,hsl⟩:=hr;cases p with
 | nil =>
  simp only[aK,Option.some.injEq] at h2;cases hc:ct k<;>rw[hc] at h h1<;>try exact h1.elim
  case o x =>
   refine .inr ⟨F,by rw[<-h2];exact h,fun _ h=>h,?_,by simp⟩;rw[<-h2];exact Reach.root hc h
  case box l =>
   obtain⟨_,b,cs,e,Fs,h3,_⟩:=h;rw[<-h2,h3] at hsl;rcases hsl with⟨_,_,_,hh⟩ | ⟨_,hh⟩<;>cases hh
  case row z l=>exact .inl ⟨z,l,rfl,rfl,h2.symm⟩
 | cons s p =>
  obtain⟨u,F1,F2,g1,g2,g3,g4,g5,g6,g7⟩:=h.splitAt h1 (by simp);rw[g1] at h2;injection h2 with h2
  subst h2
  have hrow:∀z l,ct k≠.row z l:=by
   intro z l hc;rw[hc] at h1;exact absurd h1 (by simp[D.aT])
  unfold fm at g2;cases hl:bc (ct k) (s::p) with
  | false =>
   rw[hl] at g2;simp only at g2;have hd:(ct k).a8 (s::p)=(ct k).at (s::p):=g2.un.1;have hown:aj w A u ((ct k).a8 (s::p)) F1:=by rw[hd];exact g2
   exact .inr ⟨F1,hown,g3,Reach.part h h1 (by simp) g1 (fun hh=>by rw[hl] at hh;cases hh) hown,hrow⟩
  | true =>
   rw[hl] at g2;simp only at g2;obtain⟨x,hat⟩:=w6 (hS hl);rw[hat] at g2;have hd:(ct k).a8 (s::p)=x:=by unfold D.a8;rw[hat];rfl
   have hown:aj w A u ((ct k).a8 (s::p)) F1:=by rw[hd];exact g2
   exact .inr ⟨F1,hown,g3,Reach.part h h1 (by simp) g1 (fun _=>by rw[hd,hat]) hown,hrow⟩
end
end Go.D3
namespace Go.D3
open Go
def dC:List UInt8->List UInt8->Bool
 | [],[]=>true
 | a::l,b::r=>a == b&&dC l r
 | _,_=>false
def aE(ds:List (Option Nat))(tr:List Nat)(x:Operand)(y:X):Bool :=
 match x,y with
 | .tmp t,.t i=>decide (ds[i]?=some (some t))
 | .tmp t,.v j=>decide (tr[j]?=some t)
 | .const (.int k n),.i m=>decide (k=.i64)&&decide (n=m)&&rA k n
 | .const (.int k n),.k (.int k' m)=>decide (k=k')&&decide (n=m)&&rA k n
 | .const (.bool b),.k (.bool c)=>b == c
 | .const (.string s),.k (.str l)=>dC s.data.toList l&&decide (l.length<=65536)
 | .const (.slice none 0 0),.k (.aF _)=>true
 | .const (.pointer none),.k .aP=>true
 | .func f,.k (.fn f' [])=>f == f'
 | .global g,.g n=>g == n&&(gl n).isSome
 | .const .nilIface,.k .bj=>true
 | _,_=>false
def eh(ds:List (Option Nat))(tr:List Nat):List Operand->List X->Bool
 | [],[]=>true
 | x::l,y::r=>aE ds tr x y&&eh ds tr l r
 | _,_=>false
def nM(ds:List (Option Nat))(tr:List Nat):Option Operand->Option X->Bool
 | none,none=>true
 | some x,some y=>aE ds tr x y
 | _,_=>false
def fI(v:Value)(d:D):Bool :=
 match v,d with
 | .int k n,.int k' m=>decide (k=k')&&decide (n=m)&&rA k n
 | .bool b,.bool c=>b == c
 | .string s,.str []=>s.data.toList.isEmpty
 | .nilFunc,.dead=>true
 | .slice none 0 0,.slice _ []=>true
 | .pointer none,.aP=>true
 | .map none,.bD=>true
 | .nilIface,.bj=>true
 | _,_=>false
def qC:List Value->List D->Bool
 | [],[]=>true
 | v::l,d::r=>fI v d&&qC l r
 | _,_=>false
def nh(P:Program)(t:TypeId)(zs:List D):Bool :=
 match P.info? t with
 | some i=>match i.zero with
  | some z=>qC z.cells.toList zs&&decide (i.size=zs.length)
  | none=>false
 | none=>false
def BI:D->D
 | .vw (.aF z)=>.slice z []
 | d=>d
def lI:D->D
 | .aF z=>.slice z []
 | d=>d
def j7(P:Program)(t:TypeId)(k:Nat):Bool:=match P.underlying t,k with
 | some (.int _),0=>true
 | some .bool,1=>true
 | some .string,2=>true
 | _,_=>false
def eqFields(P:Program):Nat->List Field->List Nat->Bool
 | _,[],[]=>true
 | i,f::r,k::ks=>f.name != "_"&&decide (f.offset=i)&&j7 P f.type k&&eqFields P (i+1) r ks
 | _,_,_=>false
def nK(P:Program)(ds:List (Option Nat))(tr:List Nat)(t:TypeId):List (Nat×Operand)->List (Nat×Nat×X)->Bool
 | [],[]=>true
 | (i,x)::l,(off,n,y)::r=>(match ib P t i with
     | some (o,ft)=>decide (o=off)&&cT P ft n
     | none=>false)&&aE ds tr x y&&nK P ds tr t l r
 | _,_=>false
def Dx(P:Program)(t:TypeId):Bool:=match P.underlying t with
 | some (.struct fs)=>fs.toList.all fun f=>(P.info? f.type).isSome
 | _=>false
def jw(ds:List (Option Nat))(tr:List Nat):List (Nat×Operand)->List (Nat×X)->Bool
 | [],[]=>true
 | (i,x)::l,(j,y)::r=>i == j&&aE ds tr x y&&jw ds tr l r
 | _,_=>false
def ui:Op->Option Operand
 | .move x=>some x
 | .assign x=>some x
 | _=>none
def W3:Option Operand->Bool
 | some (.const (.slice none 0 0))=>true
 | _=>false
def yc:Op->Option (Operand×Operand×Operand)
 | .pick c a b=>some (c,a,b)
 | _=>none
def mr:Op->Option (BinOp×TypeId×Operand×Operand)
 | .binOp op t x y _=>some (op,t,x,y)
 | _=>none
def ya:Op->Option Operand
 | .unOp .not _ x=>some x
 | _=>none
def rD:Op->Option (TypeId×TypeId×Operand)
 | .convert s d x=>some (s,d,x)
 | _=>none
def ln(b:Builtin):Op->Option (List Operand×List TypeId)
 | .call c=>match c.callee with
  | .builtin b'=>if b=b' then some (c.args.toList,c.argTypes.toList) else none
  | _=>none
 | _=>none
def n9:Op->Option (FuncId×List Operand)
 | .call c=>match c.callee with
  | .value (.func f)=>some (f,c.args.toList)
  | _=>none
 | _=>none
def xQ:Op->Option (Operand×List Operand)
 | .call c=>match c.callee with
  | .value x=>some (x,c.args.toList)
  | _=>none
 | _=>none
def xT:Op->Option (TypeId×Operand×Operand)
 | .indexAddr t x i=>some (t,x,i)
 | _=>none
def uh:Op->Option (TypeId×Operand)
 | .load t x=>some (t,x)
 | _=>none
def rF:Op->Option (TypeId×Operand×Operand)
 | .store t x y=>some (t,x,y)
 | _=>none
def xS:Op->Option (TypeId×Operand×Nat)
 | .fieldAddr t x f=>some (t,x,f)
 | _=>none
def ug:Op->Option (TypeId×Operand×Nat)
 | .field t x f=>some (t,x,f)
 | _=>none
def xM:Op->Option (TypeId×Array (Nat×Operand))
 | .build t ps=>some (t,ps)
 | _=>none
def xU:Op->Option (TypeId×Operand×Operand)
 | .index t x i=>some (t,x,i)
 | _=>none
def xR:Op->Option (Operand×Nat)
 | .extract x i=>some (x,i)
 | _=>none
def x9:Op->Option Operand
 | .nilCheck x=>some x
 | _=>none
def ue:Op->Option (TypeId×Operand)
 | .box t x=>some (t,x)
 | _=>none
def xL:Op->Option TypeId
 | .alloc t=>some t
 | _=>none
def xY:Op->Option (TypeId×Operand×Operand)
 | .makeSlice t x y=>some (t,x,y)
 | _=>none
def ud:Op->Option (TypeId×Nat×Array (Nat×Operand))
 | .buildSlice t n ps=>some (t,n,ps)
 | _=>none
def uk:Op->Option (TypeId×Operand×Option Operand×Option Operand)
 | .slice t x lo hi none=>some (t,x,lo,hi)
 | _=>none
def xX:Op->Option TypeId
 | .makeMap t none=>some t
 | _=>none
def xV:Op->Option (TypeId×Operand×Operand×Bool)
 | .lookup t x i ok=>some (t,x,i,ok)
 | _=>none
def x8:Op->Option (TypeId×Operand×Operand×Operand)
 | .mapUpdate t m k v=>some (t,m,k,v)
 | _=>none
def pE(P:Program)(t:TypeId):Option (TypeId×TypeId):=match P.underlying t with
 | some (.map k e)=>some (k,e)
 | _=>none
def zeroV(P:Program)(t:TypeId)(d:D):Bool:=match P.info? t with
 | some i=>match i.zero with
  | some z=>fI z d&&d.bR
  | none=>false
 | none=>false
def yd:Op->Option (TypeId×Operand)
 | .range t x=>some (t,x)
 | _=>none
def yb:Op->Option Operand
 | .next x true=>some x
 | _=>none
def xW:Op->Option (TypeId×Operand)
 | .makeInterface t x=>some (t,x)
 | _=>none
def xZ:Op->Option (FuncId×Array Operand×Array Operand)
 | .makeFunc (.func f) first caps=>some (f,first,caps)
 | _=>none
def aR(P:Program)(ds:List (Option Nat))(tr:List Nat)(o:Oper):Kp->Bool
 | .mv y | .bo y | .bZ _ y | .jh _ y | .ji _ y=>match ui o.op with
  | some x=>aE ds tr x y
  | none=>false
 | .pick c a b=>match yc o.op with
  | some (c',a',b')=>aE ds tr c' c&&aE ds tr a' a&&aE ds tr b' b
  | none=>false
 | .bin op x y=>match mr o.op with
  | some (op',_,x',y')=>decide (op=op')&&aE ds tr x' x&&aE ds tr y' y
  | none=>false
 | .shr x y=>match mr o.op with
  | some (op',_,x',y')=>decide (op'=.shr)&&aE ds tr x' x&&aE ds tr y' y
  | none=>false
 | .oW op x y=>match mr o.op with
  | some (op',t,x',y')=>decide (op=op')&&aE ds tr x' x&&aE ds tr y' y&&(match P.underlying t with | some .bool=>true | _=>false)
  | none=>false
 | .not x=>match ya o.op with
  | some x'=>aE ds tr x' x
  | none=>false
 | .conv k x=>match rD o.op with
  | some (s,d,x')=>aE ds tr x' x&&(match P.underlying s,P.underlying d with | some (.int _),some (.int k')=>decide (k=k') | _,_=>false)
  | none=>false
 | .len x=>match ln .len o.op with
  | some ([x'],[t])=>aE ds tr x' x&&(gS P t).isSome
  | _=>false
 | .mm mx x y=>match ln (tI mx) o.op with
  | some ([x',y'],_)=>aE ds tr x' x&&aE ds tr y' y
  | _=>false
 | .pA x=>match ln .len o.op with
  | some ([x'],[t])=>aE ds tr x' x&&(match P.underlying t with | some .string=>true | _=>false)
  | _=>false
 | .bf sz x i=>match xT o.op with
  | some (t,x',i')=>aE ds tr x' x&&aE ds tr i' i&&decide (0<sz)&&(match gS P t with | some e=>cT P e sz | none=>false)
  | none=>false
 | .ld a=>match uh o.op with
  | some (t,a')=>aE ds tr a' a&&jT P t
  | none=>false
 | .dQ n a=>match uh o.op with
  | some (t,a')=>aE ds tr a' a&&lO P t&&cT P t n
  | none=>false
 | .fA off a=>match xS o.op with
  | some (t,a',f)=>aE ds tr a' a&&(match ib P t f with | some (o,ft)=>decide (o=off)&&!cT P ft 0&&(P.info? ft).isSome | none=>false)
  | none=>false
 | .ph off x=>match ug o.op with
  | some (t,x',f)=>aE ds tr x' x&&(match ib P t f with | some (o,ft)=>decide (o=off)&&jT P ft | none=>false)
  | none=>false
 | .pj off n x=>match ug o.op with
  | some (t,x',f)=>aE ds tr x' x&&(match ib P t f with | some (o,ft)=>decide (o=off)&&lO P ft&&cT P ft n | none=>false)
  | none=>false
 | .gF zs parts=>match xM o.op with
  | some (t,ps)=>nh P t (zs.map lI)&&nK P ds tr t ps.toList parts&&Dx P t
  | none=>false
 | .pv x i=>match xU o.op with
  | some (t,x',i')=>aE ds tr x' x&&aE ds tr i' i&&(match P.underlying t with | some .string=>true | _=>false)
  | none=>false
 | .ext i x=>match xR o.op with
  | some (x',i')=>aE ds tr x' x&&i == i'
  | none=>false
 | .ml x=>match x9 o.op with
  | some x'=>aE ds tr x' x
  | none=>false
 | .eqs neg ks x y=>match mr o.op with
  | some (op,t,x',y')=>decide (op=if neg then .neq else .eql)&&aE ds tr x' x&&aE ds tr y' y&&(match P.underlying t with | some (.struct fs)=>eqFields P 0 fs.toList ks&&!P.stoodInHeld t | _=>false)&&!P.eqGuardType P.depth t
  | none=>false
 | .call f xs=>match n9 o.op with
  | some (f',as)=>f == f'&&eh ds tr as xs&&eu P f
  | none=>false
 | .gZ f xs=>match n9 o.op with
  | some (f',as)=>f == f'&&eh ds tr as xs&&eu P f
  | none=>false
 | .fZ f xs=>match n9 o.op with
  | some (f',as)=>f == f'&&eh ds tr as xs&&eu P f
  | none=>false
 | .box n x=>match ue o.op with
  | some (e,x')=>aE ds tr x' x&&cT P e n
  | none=>false
 | .fo n x | .kC n x=>match ue o.op with
  | some (e,x')=>aE ds tr x' x&&cT P e n
  | none=>false
 | .eV zs=>match xL o.op with
  | some t=>nh P t (zs.map lI)
  | none=>false
 | .ae z bytes l c=>match xY o.op with
  | some (t,l',c')=>aE ds tr l' l&&aE ds tr c' c&&decide (0<z.cells.length)&&(match gS P t with | some e=>nh P e (z.cells.map BI)&&nw P e bytes&&decide (0<bytes) | none=>false)
  | none=>false
 | .cn z n parts=>match ud o.op with
  | some (t,n',ps)=>n == n'&&jw ds tr ps.toList parts&&decide (0<z.cells.length)&&decide (n*z.cells.length<=16777216)&&(match gS P t with | some e=>nh P e z.cells | none=>false)
  | none=>false
 | .kA z x=>match ud o.op with
  | some (t,n',ps)=>decide (n'=1)&&jw ds tr ps.toList [(0,x)]&&decide (0<z.cells.length)&&decide (z.cells.length<=16777216)&&(match gS P t with | some e=>nh P e z.cells | none=>false)
  | none=>false
 | .st a x=>match rF o.op with
  | some (t,a',x')=>aE ds tr a' a&&aE ds tr x' x&&cT P t 1
  | none=>false
 | .eQ n a x=>match rF o.op with
  | some (t,a',x')=>aE ds tr a' a&&aE ds tr x' x&&cT P t n
  | none=>false
 | .ko n a x=>match rF o.op with
  | some (t,a',x')=>aE ds tr a' a&&aE ds tr x' x&&cT P t n
  | none=>false
 | .app sz bytes s x=>match ln .append o.op with
  | some ([s',x'],[t,t'])=>aE ds tr s' s&&aE ds tr x' x&&t == t'&&(match gS P t with
   | some e=>nw P e bytes&&(match P.info? e with | some i=>decide (0<sz)&&decide (0<bytes)&&decide (i.size=sz)&&i.zero.any (fun z=>decide (z.cells.size=i.size)) | none=>false) | none=>false)
  | _=>false
 | .dN sz bytes b s=>match ln .append o.op with
  | some ([s',x'],[t,t'])=>aE ds tr s' (.t b)&&aE ds tr x' (.t s)&&t == t'&&(match gS P t with
   | some e=>nw P e bytes&&(match P.info? e with | some i=>decide (0<sz)&&decide (0<bytes)&&decide (i.size=sz)&&i.zero.any (fun z=>decide (z.cells.size=i.size)) | none=>false) | none=>false)
  | _=>false
 | .oF x lo hi=>match uk o.op with
  | some (t,x',lo',hi')=>aE ds tr x' x&&nM ds tr lo' lo&&nM ds tr hi' hi&&(match P.underlying t with | some .string=>true | _=>false)
  | none=>false
 | .sl x lo hi=>match uk o.op with
  | some (t,x',lo',hi')=>aE ds tr x' x&&nM ds tr lo' lo&&nM ds tr hi' hi&&(match P.underlying t with | some (.slice e)=>cT P e 1 | _=>false)
  | none=>false
 | .pG f caps=>match xZ o.op with
  | some (f',first,captured)=>f == f'&&first.isEmpty&&eh ds tr captured.toList caps
  | none=>false
 | .dB x y=>match ln .copy o.op with
  | some ([x',y'],[t,t'])=>aE ds tr x' x&&aE ds tr y' y&&(match gS P t,gS P t' with | some e,some _=>cT P e 1 | _,_=>false)
  | _=>false
 | .dyn x xs=>match xQ o.op with
  | some (x',as)=>aE ds tr x' x&&eh ds tr as xs
  | none=>false
 | .fQ=>(xX o.op).isSome
 | .nR ok kk z m k=>match xV o.op with
  | some (t,m',k',ok')=>aE ds tr m' m&&aE ds tr k' k&&ok == ok'&&(match pE P t with | some (kt,e)=>j7 P kt kk&&zeroV P e z | none=>false)
  | none=>false
 | .nP x=>match ln .len o.op with
  | some ([x'],[t])=>aE ds tr x' x&&(pE P t).isSome
  | _=>false
 | .lb kk m k v=>match x8 o.op with
  | some (t,m',k',v')=>aE ds tr m' m&&aE ds tr k' k&&aE ds tr v' v&&(match pE P t with | some (kt,_)=>j7 P kt kk | none=>false)
  | none=>false
 | .nB x=>match rD o.op with
  | some (s,d,x')=>aE ds tr x' x&&(match P.underlying s,P.underlying d with
   | some (.slice e),some .string=>(match P.underlying e with | some (.int .u8)=>true | _=>false)
   | _,_=>false)
  | none=>false
 | .fL x=>match rD o.op with
  | some (s,d,x')=>aE ds tr x' x&&(match P.underlying s,P.underlying d with
   | some .string,some (.slice e)=>(match P.underlying e with | some (.int .u8)=>true | _=>false)
   | _,_=>false)
  | none=>false
 | .pJ neg x=>match mr o.op with
  | some (op',t,x',.const .nilIface)=>decide (op'=if neg then .neq else .eql)&&aE ds tr x' x&&(match P.underlying t with | some (.interface _)=>true | _=>false)
  | _=>false
 | .nU neg x=>match mr o.op with
  | some (op',t,x',.const (.slice none _ _))=>decide (op'=if neg then .neq else .eql)&&aE ds tr x' x&&(gS P t).isSome
  | _=>false
 | .pF t x=>match xW o.op with
  | some (t',x')=>decide (t=t')&&aE ds tr x' x&&(match P.underlying t with | some (.interface _)=>false | some _=>true | none=>false)
  | none=>false
 | .ff x=>match yd o.op with
  | some (t,x')=>aE ds tr x' x&&(match P.underlying t with | some .string=>true | _=>false)
  | none=>false
 | .lh j=>match yb o.op with
  | some x'=>aE ds tr x' (.v j)
  | none=>false
def closure(acc:List Nat)(o:Oper):Nat:=o.after.toList.foldl (fun s e=>if Region.binds .any e=true then s ||| (1 <<< e.on ||| acc.getD e.on 0) else s) 0
def dz:List Nat->List Oper->List Nat
 | acc,[]=>acc
 | acc,o::r=>dz (acc++[closure acc o]) r
def eY(cl:List Nat)(i x:Nat):Bool:=(cl.getD i 0).testBit x
def gx:X->List Nat
 | .t n=>[n]
 | _=>[]
def yw:Option X->List Nat
 | some x=>gx x
 | none=>[]
def Kp.reads:Kp->List Nat
 | .mv x | .bo x | .bZ _ x | .jh _ x | .ji _ x | .not x | .conv _ x | .len x | .pA x | .ld x | .dQ _ x | .fA _ x | .ph _ x | .pj _ _ x | .ext _ x | .ml x | .box _ x | .fo _ x | .kC _ x | .kA _ x | .nP x | .nB x | .nU _ x | .pF _ x | .pJ _ x | .ff x | .fL x=>gx x
 | .eV _=>[]
 | .fQ | .lh _=>[]
 | .dN _ _ b s=>[b,s]
 | .pick a b c | .lb _ a b c=>gx a++gx b++gx c
 | .bin _ x y | .shr x y | .mm _ x y | .oW _ x y | .bf _ x y | .pv x y | .eqs _ _ x y | .ae _ _ x y | .st x y | .eQ _ x y | .ko _ x y | .dB x y | .app _ _ x y | .nR _ _ _ x y=>gx x++gx y
 | .gF _ ps=>ps.flatMap fun p=>gx p.2.2
 | .cn _ _ ps=>ps.flatMap fun p=>gx p.2
 | .call _ xs | .fZ _ xs | .gZ _ xs | .pG _ xs=>xs.flatMap gx
 | .oF x lo hi | .sl x lo hi=>gx x++yw lo++yw hi
 | .dyn x xs=>gx x++xs.flatMap gx
def Kp.xs:Kp->List X
 | .mv x | .bo x | .bZ _ x | .jh _ x | .ji _ x | .not x | .conv _ x | .len x | .pA x | .ld x | .dQ _ x | .fA _ x | .ph _ x | .pj _ _ x | .ext _ x | .ml x | .box _ x | .fo _ x | .kC _ x | .kA _ x | .nP x | .nB x | .nU _ x | .pF _ x | .pJ _ x | .ff x | .fL x=>[x]
 | .eV _=>[]
 | .fQ=>[]
 | .lh j=>[.v j]
 | .dN _ _ b s=>[.t b,.t s]
 | .pick a b c | .lb _ a b c=>[a,b,c]
 | .bin _ x y | .shr x y | .mm _ x y | .oW _ x y | .bf _ x y | .pv x y | .eqs _ _ x y | .ae _ _ x y | .st x y | .eQ _ x y | .ko _ x y | .dB x y | .app _ _ x y | .nR _ _ _ x y=>[x,y]
 | .gF _ ps=>ps.map (·.2.2)
 | .cn _ _ ps=>ps.map (·.2)
 | .call _ xs | .fZ _ xs | .gZ _ xs | .pG _ xs=>xs
 | .oF x lo hi | .sl x lo hi=>x::lo.toList++hi.toList
 | .dyn x xs=>x::xs
def Kp.cP:Kp->Option Nat
 | .bZ j _ | .jh j _ | .ji j _=>some j
 | _=>none
def rE(pre:List Nat)(s:a6):Bool :=
 (match s.k.cP with | some j=>!pre.contains j | none=>true)&&s.k.xs.all (fun x=>match x with | .v j=>!pre.contains j | _=>true)
def Kp.fq:Kp->Bool
 | .bZ _ _ | .jh _ _ | .ji _ _ | .st _ _ | .eQ _ _ _ | .ko _ _ _ | .app _ _ _ _ | .gZ _ _ | .dyn _ _ | .bo _ | .dB _ _ | .kC _ _ | .kA _ _ | .dN _ _ _ _ | .lb _ _ _ _ | .lh _=>true
 | _=>false
def Kp.kO:Kp->Bool
 | .dN _ _ _ _=>true
 | _=>false
def a6.w5(s:a6):Bool:=s.g.isNone&&match s.k with | .mv (.v _)=>true | _=>false
def fe(o:Oper)(s:a6):Option Nat:=match s.k.cP with
 | some _=>none
 | none=>o.dst
def bH:List Oper->List a6->List (Option Nat)
 | o::l,s::r=>fe o s::bH l r
 | _,_=>[]
def jW(P:Program)(nt:Nat)(ds:List (Option Nat))(tr:List Nat):Nat->List Oper->List a6->Bool
 | _,[],[]=>true
 | n,o::l,s::r=>(match o.dst with | some d=>decide (d<nt) | none=>true) &&
   (match s.k.cP with | some j=>decide (o.dst=tr[j]?)&&decide (j<tr.length)&&s.g.isNone | none=>true) &&
   (match o.guard,s.g with
    | none,none=>true
    | some (j,want),some (i,want')=>j == i&&want == want'&&decide (i<n)&&(match ds[i]? with | some (some _)=>true | _=>false)
    | _,_=>false)&&aR P ds tr o s.k&&s.k.reads.all (fun i=>decide (i<n))&&jW P nt ds tr (n+1) l r
 | _,_,_=>false
def ru:List (Option Nat)->Bool
 | []=>true
 | none::r=>ru r
 | some d::r=>!(r.contains (some d))&&ru r
def tQ:List Nat->Bool
 | []=>true
 | d::r=>!(r.contains d)&&tQ r
def qJ(tr pre:List Nat):List (Option Nat)->Bool
 | []=>true
 | none::r=>qJ tr pre r
 | some d::r=>(tr.zipIdx.all fun p=>!(p.1 == d) || pre.contains p.2)&&qJ tr pre r
def uw(ds:List (Option Nat))(tr pre:List Nat):List (Nat×Nat)->Bool
 | []=>true
 | (j,i)::r=>pre.contains j&&(match tr[j]?,ds[i]? with | some t,some (some d)=>t == d | _,_=>false)&&!((r.map (·.1)).contains j)&&uw ds tr pre r
def vO(cl:List Nat)(sl:List a6)(e b:Nat):Bool :=
 sl.zipIdx.all fun q=>decide (q.2=e) || !q.1.k.kO&&!q.1.k.reads.contains b&&(match q.1.g with | some (i,_)=>i != b | none=>true)&&(decide (q.2<=e) || eY cl q.2 e || q.1.w5)
def sX(k:Nat)(cl:List Nat)(sl:List a6):Bool :=
 sl.zipIdx.all fun p=>(p.1.k.reads.all fun i=>eY cl p.2 i)&&(match p.1.g with | some (i,_)=>eY cl p.2 i | none=>true) &&
  (match p.1.k with
   | .dN _ _ b _=>vO cl sl p.2 b
   | kk=>!kk.fq || ((List.range p.2).all fun i=>decide (i<k) || eY cl p.2 i)&&((List.range sl.length).all fun i=>decide (i<=p.2) || eY cl i p.2))
def iK(ops:List Oper):Bool:=ops.zipIdx.all fun p=>p.1.after.toList.all fun e=>!Region.binds .any e || decide (e.on<p.2)
def BK(vs ds:List Nat):Operand->Bool
 | .tmp t=>vs.contains t || !ds.contains t
 | _=>false
def VL(tr vs ds:List Nat)(o:Oper):Bool :=
 o.guard.isNone&&(match o.dst with | some d=>!tr.contains d | none=>false)&&(match o.op with | .move x=>BK vs ds x | .nilCheck x=>BK vs ds x | .fieldAddr _ x _=>BK vs ds x | _=>false)
def BJ(tr ds:List Nat):Nat->List Nat->List Nat->List Oper->List Nat
 | _,_,_,[]=>[]
 | i,vs,is,o::r=>if(VL tr vs ds o&&o.after.toList.all fun e=>!Region.binds .any e || is.contains e.on)=true then i::BJ tr ds (i+1) (o.dst.toList++vs) (i::is) r else BJ tr ds (i+1) vs is r
def Da:List Oper->List Nat
 | []=>[]
 | o::r=>o.dst.toList++Da r
def wU(tr:List Nat)(ops:Array Oper):List Nat:=BJ tr (Da ops.toList) 0 [] [] ops.toList
def wT(tr:List Nat)(ops:Array Oper):List Nat:=wU tr ops++(List.range ops.size).filter fun i=>!(wU tr ops).contains i
def posOf:List Nat->Nat->Nat
 | [],_=>0
 | i::r,j=>if i=j then 0 else posOf r j+1
def fC(ρ:Nat->Nat)(o:Oper):Oper:={ o with after:=o.after.map fun e=>{ e with on:=ρ e.on },guard:=o.guard.map fun g=>(ρ g.1,g.2) }
def fx(l:List Nat)(ops:Array Oper):Array Oper:=(l.map fun i=>fC (posOf l) (ops.getD i default)).toArray
def od(l:List Nat)(n:Nat):Bool:=decide (l.length=n)&&((List.range n).all fun j=>decide (posOf l j<n)&&decide (l.getD (posOf l j) n=j))&&(List.range n).all fun i=>decide (l.getD i n<n)&&decide (posOf l (l.getD i n)=i)
def kM(n:Nat)(ops:List Oper):Bool:=ops.all fun o=>match o.guard with | some (j,_)=>decide (j<n) | none=>true
def a6.nL(s:a6):Bool:=s.g.isNone&&match s.k with | .mv _ | .ml _ | .fA _ _=>true | _=>false
def rq(draw:Bool)(ops:Array Oper)(l:List a6):Bool:=draw&&!sX 0 (dz [] ops.toList) l
def eW(tr:List Nat)(draw:Bool)(ops:Array Oper)(l:List a6):Array Oper:=if rq draw ops l=true then fx (wT tr ops) ops else ops
def yl(n i:Nat):Array Bool:=((List.range n).map fun j=>decide (j<i)).toArray
def FT(e:Array Oper)(k:Nat)(l:List a6):Bool:=(l.take k).all a6.nL&&Region.noSelect e&&(List.range k).all fun i=>Region.free .any e (yl e.size i) i
def kH(tr:List Nat)(draw:Bool)(ops:Array Oper)(l:List a6):Nat:=if rq draw ops l=true then(wU tr ops).length else 0
def jn(P:Program)(nt:Nat)(tr:List Nat)(ops:Array Oper)(draw:Bool)(pre:List Nat)(l:List a6)(post:List (Nat×Nat)):Bool :=
 let e:=eW tr draw ops l;let ds:=bH e.toList l
 decide (e.size=l.length)&&jW P nt ds tr 0 e.toList l&&ru ds&&qJ tr pre ds&&uw ds tr pre post&&pre.all (fun j=>decide (j<tr.length))&&l.all (rE pre) &&
  (!draw || (P.follows .mixedOrders&&iK e.toList&&sX (kH tr draw ops l) (dz [] e.toList) l)) &&
  (!rq draw ops l || (od (wT tr ops) ops.size&&kM ops.size ops.toList&&iK ops.toList&&FT e (kH tr draw ops l) l&&decide (kH tr draw ops l<=l.length)))
def pa(ops:Array Oper):Bool:=ops.toList.all fun o=>o.after.toList.all fun e=>!Region.binds .any e || decide (e.on<ops.size)
def eI(i j:Nat)(ops:Array Oper):Array Oper:=ops.modify j fun o=>{ o with after:=o.after.push ⟨i,.data⟩ }
def qY(P:Program)(nt:Nat)(tr pre:List Nat):RT->Array Oper->Bool
 | .leaf l post,ops=>jn P nt tr ops true pre l post
 | .two i j pm a b,ops=>decide (i≠j)&&decide (i<ops.size)&&decide (j<ops.size)&&pa ops&&kM ops.size ops.toList&&od pm ops.size&&qY P nt tr pre a (eI i j ops)&&qY P nt tr pre b (fx pm (eI j i ops))
def cw(P:Program)(nt:Nat)(tr:List Nat):Code->C->Bool
 | .skip,.skip=>true
 | .region _ ops draw,.ops pre l post=>jn P nt tr ops draw pre l post
 | .region _ ops draw,.alt pre t=>draw&&iK ops.toList&&qY P nt tr pre t ops
 | .seq (.region _ ops draw) (.cond x a b),.eC pre l post y c d=>jn P nt tr ops draw pre l post&&aE (bH (eW tr draw ops l).toList l) tr x y&&cw P nt tr a c&&cw P nt tr b d
 | .seq (.region _ ops draw) (.seq (.cond x a b) r),.um pre l post y c d e=>jn P nt tr ops draw pre l post&&aE (bH (eW tr draw ops l).toList l) tr x y&&cw P nt tr a c&&cw P nt tr b d&&cw P nt tr r e
 | .seq a b,.seq c d=>cw P nt tr a c&&cw P nt tr b d
 | .cond x a b,.cond y c d=>aE [] tr x y&&cw P nt tr a c&&cw P nt tr b d
 | .block i a,.block j c=>i == j&&cw P nt tr a c
 | .loop a,.loop c=>cw P nt tr a c
 | .exit i,.exit j=>i == j
 | .ret,.ret=>true
 | _,_=>false
def kg(nt:Nat)(tr:List Nat):Bool:=tQ tr&&tr.all (fun t=>decide (t<nt))&&decide (tr.length<500)
end Go.D3
namespace Go.D3
open Go
theorem Dl:∀{l r:List UInt8},dC l r=true->l=r
 | [],[],_=>rfl
 | [],_::_,h=>by simp[dC] at h
 | _::_,[],h=>by simp[dC] at h
 | a::l,b::r,h=>by
  simp[dC] at h;rw[h.1,Dl h.2]
theorem wo(s:ByteArray):s=⟨s.data.toList.toArray⟩:=by cases s;simp
section
variable{P:Program}{o:Oper}{w:World}{A:Nat->Prop}{ct:Nat->D}{vl:Nat->Value}{a:Act}{v:Value}
theorem dU{k:IntKind}{n:Int}(h:Pl w A (aa w ct vl) v (.int k n)):v=.int k n/\k.has n:=by
 cases h with
 | rd h=>cases h with | int h=>exact⟨rfl,h⟩
 | ref h=>exact h.elim
theorem pl_bool{b:Bool}(h:Pl w A (aa w ct vl) v (.bool b)):v=.bool b:=by
 cases h with
 | rd h=>cases h;rfl
 | ref h=>exact h.elim
theorem fS{l:List UInt8}(h:Pl w A (aa w ct vl) v (.str l)):v=.string ⟨l.toArray⟩/\l.length<=maxLen:=by
 cases h with
 | rd h=>cases h with | str h=>exact⟨rfl,h⟩
 | ref h=>exact h.elim
theorem lr{l:List D}(h:Pl w A (aa w ct vl) v (.agg l)):∃cs:Array Value,v=.agg cs/\cs.size=l.length/\∀j x,l[j]?=some x->Pl w A (aa w ct vl) (cs.getD j undef) x:=by
 cases h with
 | rd h=>cases h with | agg hs hr=>exact⟨_,rfl,hs,fun j x hx=>.rd (hr j x hx)⟩
 | ref h=>exact h.elim
 | agg hs hr=>exact⟨_,rfl,hs,hr⟩
theorem RV{l:List D}(h:Pl w A (aa w ct vl) v (.ah l)):∃cs:Array Value,v=.tuple cs/\cs.size=l.length/\∀j x,l[j]?=some x->Pl w A (aa w ct vl) (cs.getD j undef) x:=by
 cases h with
 | rd h=>cases h with | ah hs hr=>exact⟨_,rfl,hs,fun j x hx=>.rd (hr j x hx)⟩
 | ref h=>exact h.elim
 | ah hs hr=>exact⟨_,rfl,hs,hr⟩
theorem pT{l:List D}(h:Pl w A (aa w ct vl) v (.ptr l)):∃b off,v=.pointer (some ⟨b,off,none⟩)/\A b/\∀j x,l[j]?=some x->∃u,w.cell? ⟨b,off+j,none⟩=some u/\Rd w A u x:=by
 cases h with
 | rd h=>cases h with | ptr hA vs hc hr=>exact⟨_,_,rfl,hA,fun j x hx=>⟨vs j,hc j x hx,hr j x hx⟩⟩
 | ref h=>exact h.elim
theorem bO{d:D}(h:Pl w A (aa w ct vl) v d)(hd:∀k p,d≠.sub k p)(ha:∀k p,d≠.az k p)(hf:∀f c,d≠.fn f c)(hg:∀l,d≠.agg l)(ht:∀l,d≠.ah l)(hp:∀k p n,d≠.pre k p n:=by simp):Rd w A v d:=by
 cases h with
 | rd h=>exact h
 | @ref v d h=>cases d<;>first | exact h.elim | exact absurd rfl (hd _ _) | exact absurd rfl (ha _ _) | exact absurd rfl (hf _ _) | exact absurd rfl (hp _ _ _)
 | agg=>exact absurd rfl (hg _)
 | ah=>exact absurd rfl (ht _)
 | fn=>exact absurd rfl (hf _ _)
theorem oe{z:D}{L:List D}(h:Pl w A (aa w ct vl) v (.slice z L)):Rd w A v (.slice z L) :=
 bO h (by simp) (by simp) (by simp) (by simp) (by simp)
theorem de{k:Nat}{p:Path}(h:Pl w A (aa w ct vl) v (.sub k p)):aa w ct vl v (.sub k p):=by
 cases h with
 | rd h=>cases h
 | ref h=>exact h
theorem fy{k:Nat}{p:Path}(h:Pl w A (aa w ct vl) v (.az k p)):ni w ct vl v k p:=by
 cases h with
 | rd h=>cases h
 | ref h=>exact h
theorem mB{f:FuncId}{caps:List D}(h:Pl w A (aa w ct vl) v (.fn f caps)):∃cs:Array Value,v=.func (.func f) #[] cs/\cs.size=caps.length/\∀j x,caps[j]?=some x->Pl w A (aa w ct vl) (cs.getD j undef) x:=by
 cases h with
 | rd h=>cases h with | fn hs hr=>exact⟨_,rfl,hs,fun j x hx=>.rd (hr j x hx)⟩
 | ref h=>exact h.elim
 | fn hs hr=>exact⟨_,rfl,hs,hr⟩
theorem yu{z:D}{L:List D}(h:Rd w A v (.slice z L)):∃p cap,v=.slice p L.length cap/\L.length<=cap/\cap<=maxLen /\
  (L≠[]->∃b off,p=some ⟨b,off,none⟩/\A b/\0<z.cells.length/\(∀x∈L,x.cells.length=z.cells.length)/\∀j x,cellAt L z.cells.length j=some x->∃u,w.cell? ⟨b,off+j,none⟩=some u/\Rd w A u x):=by
 cases h with
 | nil=>exact⟨none,0,rfl,Nat.le_refl _,Nat.zero_le _,fun h=>absurd rfl h⟩
 | empty hm=>exact⟨_,_,rfl,Nat.zero_le _,hm,fun h=>absurd rfl h⟩
 | slice hA hc hm hz hzz hsz vs hcells hr =>
  subst hzz;exact⟨_,_,rfl,hc,hm,fun _=>⟨_,_,rfl,hA,hz,hsz,fun j x hx=>⟨vs j,hcells j x hx,hr j x hx⟩⟩⟩
theorem rI{z:D}{L:List D}{F:Nat->Prop}(h:aj w A v (.slice z L) F):∃p cap,v=.slice p L.length cap/\L.length<=cap/\cap<=maxLen/\(L≠[]->∃b off,p=some ⟨b,off,none⟩):=by
 cases h with
 | nil=>exact⟨none,0,rfl,Nat.le_refl _,Nat.zero_le _,fun h=>absurd rfl h⟩
 | slice Fs hb hroom hc hm hz hzz hsz hr hF hfs hdis=>exact⟨_,_,rfl,hc,hm,fun _=>⟨_,_,rfl⟩⟩
theorem ng{w:World}{A:Nat->Prop}{x:D}(h:Pl w A (aa w ct vl) v x){l:List D}(hl:x.cellsOf=some l):v.cells.size=l.length/\∀j c,l[j]?=some c->Pl w A (aa w ct vl) (v.cells.getD j undef) c:=by
 have one:(v.cells=#[v])->l=[x]->v.cells.size=l.length/\∀j c,l[j]?=some c->Pl w A (aa w ct vl) (v.cells.getD j undef) c:=by
  rintro h1 rfl;refine⟨by simp[h1],fun j c hc=>?_⟩;cases j with
  | zero=>simp at hc;subst hc;simpa[h1] using h
  | succ j=>simp at hc
 have rdc:∀{v:Value}{d:D},Rd w A v d->(∀l,d≠.agg l)->d≠.dead->(∀y,d≠.o y)->(∀y,d≠.vw y)->v.cells=#[v]:=by
  intro v d h h1 h2 h3 h4;cases h<;>first | rfl | exact absurd rfl (h1 _) | exact absurd rfl h2 | exact absurd rfl (h3 _) | exact absurd rfl (h4 _)
 cases x<;>simp only[D.cellsOf,Option.some.injEq,reduceCtorEq] at hl
 case agg l' =>
  subst hl;obtain⟨cs,rfl,h1,h2⟩:=lr h;exact⟨h1,h2⟩
 case pre k p n =>
  refine one ?_ hl.symm;cases h with
  | rd h=>cases h
  | ref h=>obtain⟨q,m,c,_,_,rfl⟩:=h;rfl
 all_goals
  refine one ?_ hl.symm
 case sub k p=>obtain⟨_,_,⟨q,n,c,rfl⟩ | ⟨r,rfl⟩⟩:=de h<;>rfl
 case az k p=>obtain⟨_,_,_,rfl⟩:=fy h;rfl
 case fn f caps=>obtain⟨cs,rfl,_⟩:=mB h;rfl
 all_goals exact rdc (bO h (by simp) (by simp) (by simp) (by simp) (by simp)) (by simp) (by simp) (by simp) (by simp)
end
end Go.D3
