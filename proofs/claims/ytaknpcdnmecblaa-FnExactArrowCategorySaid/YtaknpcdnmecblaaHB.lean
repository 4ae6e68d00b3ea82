/- WHAT A READING SAYS OF A VALUE; struct literals, comparisons of structs, slices of views, function values. Generic. -/
import Derived.Test.YtaknpcdnmecblaaHA
import Derived.Attr
import Derived.Laws.Entries
import Derived.Laws.Tables
import Derived.Laws.MakeOwn
import Derived.Laws.Cells
import Derived.Laws.StructEq
import Derived.Orders
namespace Go.D3
open Go
structure St where
 env:List D
 n:Nat
 tmp:List D
def nth:List D->Nat->D
 | [],_=>.dead
 | a::_,0=>a
 | _::l,i+1=>nth l i
def cL:List D->Nat->D->List D
 | [],_,_=>[]
 | _::l,0,x=>x::l
 | a::l,i+1,x=>a::cL l i x
def St.cont(st:St)(k:Nat):D:=if k<1000 then nth st.env k else if k<1000+st.n then nth st.tmp (999+st.n-k) else .dead
def St.put(st:St)(k:Nat)(c:D):St:=if k<1000 then⟨cL st.env k c,st.n,st.tmp⟩ else if k<1000+st.n then⟨st.env,st.n,cL st.tmp (999+st.n-k) c⟩ else st
def St.push(st:St)(c:D):St:=⟨st.env,st.n+1,c::st.tmp⟩
def St.kill(st:St)(q:D->Bool):St:=⟨dq q st.env,st.n,dq q st.tmp⟩
def St.rd(st:St):X->D
 | .t i=>bB (1000+i) (st.cont (1000+i))
 | .v j=>bB j (st.cont j)
 | .i n=>.int .i64 n
 | .k d=>d
 | .g n=>(gl n).getD .dead
def aP(k:Nat):D->Bool
 | .sub j _=>j == k
 | .aq j _=>j == k
 | _=>false
def ej:D->Bool
 | .sub j _=>decide (1000<=j)
 | .aq j _=>decide (1000<=j)
 | _=>false
def D.hole(c:D)(p:Path):D:=c.setAt p (cX c p)
def D.o?:D->Option D
 | .o x=>some x
 | _=>none
def D.bX:D->Bool
 | .int _ _ | .bool _ | .str _=>true
 | _=>false
def iB:List D->Bool
 | []=>true
 | x::r=>x.bX&&iB r
def dt(f:D->Option D):List D->Option (List D)
 | []=>some []
 | x::r=>(f x).bind fun y=>(dt f r).bind fun l=>some (y::l)
def D.dT:D->Option D
 | .int k n=>some (.int k n)
 | .bool b=>some (.bool b)
 | .str s=>some (.str s)
 | .aF=>some .aF
 | .slice z l=>some (.vw (.slice z l))
 | .ptr l=>some (.vw (.ptr l))
 | .aM z=>some (.slice z [])
 | _=>none
def D.oq:D->Option D
 | .agg l=>(dt D.dT l).bind fun l'=>some (.agg l')
 | x=>x.dT
def D.bV:D->Option D
 | .o x=>some x
 | c=>c.dT
def D.gB:D->Option D
 | .o x=>some x
 | .row z l=>(dt D.oq l).bind fun l'=>some (.slice z l')
 | .box l=>(dt D.bV l).bind fun l'=>some (.ptr l')
 | _=>none
def b7{α:Type}(x:Option α)(K:α->Prop):Prop :=
 match x with
 | some a=>K a
 | none=>False
def du(k:Nat)(p:Path)(K:D->St->Prop)(st:St):Prop :=
 match p with
 | []=>b7 (st.cont k).gB fun x=>K x ((st.kill (aP k)).put k .dead)
 | s::p=>K ((st.cont k).a8 (s::p)) ((st.kill (bt k (s::p))).put k (((st.kill (bt k (s::p))).cont k).hole (s::p)))
def kq(k:Nat)(p:Path):D->Prop
 | .sub j q=>j≠k\/apart p q=true
 | .aq j q=>j≠k\/apart p q=true
 | _=>True
def lD(r:List D):D->Prop
 | .sub k p=>bD (kq k p) r
 | _=>True
mutual
def aw:D->(D->St->Prop)->St->Prop
 | .int k n,K,st=>K (.int k n) st
 | .bool b,K,st=>K (.bool b) st
 | .str s,K,st=>K (.str s) st
 | .aF,K,st=>K .aF st
 | .fn f [],K,st=>K (.fn f []) st
 | .fn f (c::r),K,st=>(D.fn f (c::r)).refs (fun _=>False)/\K (.vw (.fn f (c::r))) st
 | .sub k p,K,st=>du k p K st
 | .agg l,K,st=>bR l (fun l' st=>K (.agg l') st) st
 | .slice z l,K,st=>K (.vw (.slice z l)) st
 | .ptr l,K,st=>K (.vw (.ptr l)) st
 | .aM z,K,st=>K (.slice z []) st
 | .bw,K,st=>K .bw st
 | .bl,K,st=>K .bl st
 | .bq t x,K,st=>K (.bq t x) st
 | _,_,_=>False
def bR:List D->(List D->St->Prop)->St->Prop
 | [],K,st=>K [] st
 | x::r,K,st=>x.refs (lD r)/\aw x (fun x' st=>bR r (fun r' st=>K (x'::r') st) st) st
end
theorem Oy{k:Nat}{p:Path}{K K':D->St->Prop}(hK:∀x st,K x st->K' x st){st:St}(h:du k p K st):du k p K' st:=by
 cases p with
 | nil =>
  simp only[du] at h|-
  cases hc:(st.cont k).gB with
  | none=>rw[hc] at h;exact h.elim
  | some x=>rw[hc] at h;exact hK _ _ h
 | cons s p=>simp only[du] at h|-;exact hK _ _ h
mutual
theorem FJ:∀(d:D){K K':D->St->Prop}(_:∀x st,K x st->K' x st){st:St},aw d K st->aw d K' st
 | .int _ _,K,K',hK,st,h=>by simp only[aw] at h|-;exact hK _ _ h
 | .bool _,K,K',hK,st,h=>by simp only[aw] at h|-;exact hK _ _ h
 | .str _,K,K',hK,st,h=>by simp only[aw] at h|-;exact hK _ _ h
 | .aF,K,K',hK,st,h=>by simp only[aw] at h|-;exact hK _ _ h
 | .fn _ [],K,K',hK,st,h=>by simp only[aw] at h|-;exact hK _ _ h
 | .slice _ _,K,K',hK,st,h=>by simp only[aw] at h|-;exact hK _ _ h
 | .ptr _,K,K',hK,st,h=>by simp only[aw] at h|-;exact hK _ _ h
 | .aM _,K,K',hK,st,h=>by simp only[aw] at h|-;exact hK _ _ h
 | .bw,K,K',hK,st,h=>by simp only[aw] at h|-;exact hK _ _ h
 | .bl,K,K',hK,st,h=>by simp only[aw] at h|-;exact hK _ _ h
 | .bq _ _,K,K',hK,st,h=>by simp only[aw] at h|-;exact hK _ _ h
 | .mp _ _,K,K',hK,st,h=>by simp only[aw] at h
 | .bE _ _,K,K',hK,st,h=>by simp only[aw] at h
 | .fv _,K,K',hK,st,h=>by simp only[aw] at h
 | .pre _ _ _,K,K',hK,st,h=>by simp only[aw] at h
 | .sub k p,K,K',hK,st,h=>by simp only[aw] at h|-;exact Oy hK h
 | .agg l,K,K',hK,st,h=>by simp only[aw] at h|-;exact oU l (fun _ _ h=>hK _ _ h) h
 | .fn _ (_::_),K,K',hK,st,h=>by simp only[aw] at h|-;exact⟨h.1,hK _ _ h.2⟩
 | .au _,K,K',hK,st,h=>by simp only[aw] at h
 | .vw _,K,K',hK,st,h=>by simp only[aw] at h
 | .o _,K,K',hK,st,h=>by simp only[aw] at h
 | .box _,K,K',hK,st,h=>by simp only[aw] at h
 | .row _ _,K,K',hK,st,h=>by simp only[aw] at h
 | .aq _ _,K,K',hK,st,h=>by simp only[aw] at h
 | .when _ _,K,K',hK,st,h=>by simp only[aw] at h
 | .dead,K,K',hK,st,h=>by simp only[aw] at h
theorem oU:∀(l:List D){K K':List D->St->Prop}(_:∀x st,K x st->K' x st){st:St},bR l K st->bR l K' st
 | [],K,K',hK,st,h=>by simp only[bR] at h|-;exact hK _ _ h
 | x::r,K,K',hK,st,h=>by simp only[bR] at h|-;exact⟨h.1,FJ x (fun _ _ h=>oU r (fun _ _ h=>hK _ _ h) h) h.2⟩
end
def aJ:D->D
 | .vw (.slice z l)=>.slice z l
 | .vw (.ptr l)=>.ptr l
 | .vw (.agg l)=>.agg l
 | .vw (.fn f l)=>.fn f l
 | .vw (.mp ks vs)=>.mp ks vs
 | .vw (.au l)=>.au l
 | .vw _=>.dead
 | .int k n=>.int k n
 | .bool b=>.bool b
 | .str s=>.str s
 | .aF=>.aF
 | .fn f l=>.fn f l
 | .dead=>.dead
 | .bw=>.bw
 | .bl=>.bl
 | .bq t x=>.bq t x
 | d=>.o d
def oH(z:D):List D->Bool
 | []=>true
 | x::r=>decide (x.cells.length=z.cells.length)&&oH z r
def D.ou:D->Nat->Option D
 | .o (.ptr l),n=>some (.ptr (l.drop n))
 | _,_=>none
def aW(ob:Nat->D):Nat->D->Option D
 | 0,_=>none
 | n+1,d=>match d with
  | .sub k p=>(lk ob k).bind fun c=>match c with
   | .row z l=>(dt (aW ob n) l).bind fun l'=>if oH z l'=true then some (.slice z l') else none
   | c=>if(c.a8 p).isAgg=true then none else some (c.a8 p)
  | .pre k p m=>(lk ob k).bind fun c=>match c with
   | .row _ _=>none
   | c=>match c.a8 p with
    | .slice z l=>some (.slice z (l.take m))
    | _=>none
  | .aq k p=>(lk ob k).bind fun c=>match c,p with
   | .box l,[(_,off)]=>(dt (aW ob n) l).bind fun l'=>some (.ptr (l'.drop off))
   | .o (.ptr l),[(_,off)]=>some (.ptr (l.drop off))
   | .box l,[(_,off),(_,o2)]=>(l.getD off .dead).ou o2
   | _,_=>none
  | .agg l=>(dt (aW ob n) l).bind fun l'=>some (.agg l')
  | .o x=>some x
  | .aM z=>some (.slice z [])
  | .au _=>none
  | .dead=>none
  | .when _ _=>none
  | .box _=>none
  | .row _ _=>none
  | .fn f l=>(dt (aW ob n) l).bind fun l'=>some (.fn f l')
  | x=>some x
def fT(ob:Nat->D)(rd:X->D):List X->Option (List D)
 | []=>some []
 | x::r=>(aW ob 4 (rd x).core).bind fun y=>(fT ob rd r).bind fun l=>some (y::l)
def cW(rd:X->D):List X->Bool
 | []=>true
 | x::r=>(rd x).gate&&cW rd r
mutual
def D.bp:D->Bool
 | .vw _=>false
 | .bq _ _=>false
 | .slice _ l=>dA l
 | .agg l=>dA l
 | .au l=>dA l
 | .ptr l=>dA l
 | _=>true
def dA:List D->Bool
 | []=>true
 | x::r=>x.bp&&dA r
end
def cz:D->Prop:=fun _=>False
def iy(rd:X->D):List X->Prop
 | []=>True
 | x::r=>(rd x).core.refs cz/\iy rd r
def ji(g:Option Bool)(p:Prop):Prop :=
 match g with
 | none=>p
 | some b=>b=true->p
def ni(g:Option Bool)(v:D):D :=
 match g with
 | none=>v
 | some b=>.when b v
def D.bC:D->Bool
 | .o _ | .box _ | .row _ _ | .when _ _=>false
 | _=>true
def fJ(r:Option PR)(g:Option Bool)(K:St->Prop)(st:St):Prop :=
 match r with
 | none=>g=some false/\K (st.push (.when false (.bool false)))
 | some (side,res)=>ji g side/\res.bC=true/\K (st.push (ni g res))
def eh(r:Option PR)(g:Option Bool)(K:St->Prop)(st:St):Prop :=
 match g,r with
 | none,some (side,c)=>side/\K (st.push c)
 | _,_=>False
def D.ey:D->Option D
 | .int k n=>some (.int k n)
 | .bool b=>some (.bool b)
 | .str s=>some (.str s)
 | .aF=>some .aF
 | .slice z l=>some (.slice z l)
 | .ptr l=>some (.ptr l)
 | .aM z=>some (.slice z [])
 | .fn f []=>some (.fn f [])
 | .mp ks vs=>some (.mp ks vs)
 | .bw=>some .bw
 | .bl=>some .bl
 | .bq t x=>some (.bq t x)
 | _=>none
def mI:List D->Bool
 | []=>true
 | x::r=>x.pc&&mI r
def um(n:Nat)(x:D):Option PR:=x.core.cellsOf.bind fun l=>some ((x.gate=true/\0<n/\mI l=true)/\l.length=n,.box l)
def uq(n:Nat)(x:D):Option PR:=x.core.cellsOf.bind fun l=>(dt D.ey l).bind fun l'=>some (x.gate=true/\l.length=n,.ptr l')
def vA(z:D)(bytes:Nat)(l c:D):Option PR :=
 l.core.int?.bind fun a=>c.core.int?.bind fun b=>some ((l.gate=true/\c.gate=true)/\0<=a/\a<=b/\bytes*b<=281474976710656,.o (.slice z (List.replicate a.toNat z)))
def kK(rd:X->D)(sz:Nat):List D->List (Nat×X)->Option (Bool×List D)
 | es,[]=>some (true,es)
 | es,(i,x)::r=>(rd x).core.cellsOf.bind fun l =>
  if l.length=sz/\i<es.length/\mI l=true then(kK rd sz (cL es i (rd x).core) r).bind fun p=>some ((rd x).gate&&p.1,p.2) else none
def four:List D->Bool
 | []=>false
 | [_]=>false
 | [_,_]=>false
 | [_,_,_]=>false
 | _::_::_::_::_=>true
def w9:Bool->D->List D->D
 | true,z,l=>.o (.slice z l)
 | false,z,l=>.row z l
def pj(rd:X->D)(z:D)(n:Nat)(parts:List (Nat×X)):Option PR :=
 match n,parts with
 | 0,[]=>some (True,.o (.slice z []))
 | 0,_=>none
 | n+1,parts=>(kK rd z.cells.length (List.replicate (n+1) z) parts).bind fun p=>some (p.1=true,w9 (four p.2&&iB p.2) z p.2)
def w8(x:D):Option PR:=x.core.lJ.bind fun s=>some (x.gate=true,.o (.bE s 0))
def uF(x:D):Option PR:=x.core.lJ.bind fun s=>some (x.gate=true/\s.length<=140737488355328,.o (ur s))
def bJ(k:Kp)(rd:X->D):Option PR :=
 match k with
 | .fg x=>uF (rd x)
 | .box n x=>um n (rd x)
 | .eK n x=>uq n (rd x)
 | .dO zs=>some (zs≠[],.box zs)
 | .al z bytes l c=>vA z bytes (rd l) (rd c)
 | .dP z n parts=>pj rd z n parts
 | .fk=>some (True,.o (.mp [] []))
 | .fq x=>w8 (rd x)
 | _=>none
def fy(P:Program)(f:FuncId):Bool:=match P.funcs[f]? with
 | some fn=>fn.body.isSome&&!(fn.name == "runtime.NumGoroutine")
 | none=>false
def jt[Mode](P:Program)(f:FuncId)(as gs:List D)(Q:D->List D->Prop):Prop :=
 fy P f=true/\∀(w:World)(A:Nat->Prop)(vs:Array Value)(gv:Nat->Value)(Fs:Nat->Nat->Prop),ck w A->(∀b,A b->b<w.heap.size)->vs.size=as.length ->
  (∀(j:Nat)(a:D),as[j]?=some a->Pl w A (aa w (nth gs) gv) (vs.getD j undef) a) ->
  (∀k,az w A (aa w (nth gs) gv) (gv k) (Fs k) (nth gs k))->(∀k,(nth gs k).isObj=false->∀b,¬Fs k b) ->
  (∀i j b,i≠j->Fs i b->¬Fs j b)->(∀k b,Fs k b->b<w.heap.size/\¬A b) ->
  Calls P f vs w fun e w'=>∃(rc:D)(gs':List D)(v:Value)(F:Nat->Prop)(gv':Nat->Value)(Fs':Nat->Nat->Prop),Q rc gs'/\e=.returned v/\w.heap.size<=w'.heap.size /\
   az w' (fun b=>A b\/(w.heap.size<=b/\b<w'.heap.size/\¬F b/\∀j,¬Fs' j b)) (aa w' (nth gs') gv') v F rc/\(rc.isObj=false->∀b,¬F b) /\
   (∀k,az w' (fun b=>A b\/(w.heap.size<=b/\b<w'.heap.size/\¬F b/\∀j,¬Fs' j b)) (aa w' (nth gs') gv') (gv' k) (Fs' k) (nth gs' k))/\(∀k,(nth gs' k).isObj=false->∀b,¬Fs' k b) /\
   (∀k,nth gs k≠.dead->gv' k=gv k) /\
   (∀b,F b->b<w'.heap.size/\(w.heap.size<=b\/∃j,Fs j b)/\∀j,¬Fs' j b)/\(∀j b,Fs' j b->b<w'.heap.size/\(w.heap.size<=b\/∃j,Fs j b))/\(∀i j b,i≠j->Fs' i b->¬Fs' j b) /\
   (∀b,b<w.heap.size->(∀j,¬Fs j b)->w'.heap[b]?=w.heap[b]?)/\w'.os=w.os/\w'.tape=w.tape/\bQ w w'
def km[Mode](P:Program)(f:FuncId)(as gs:List D)(rc:D)(gs':List D):Prop:=jt P f as gs fun r g=>r=rc/\g=gs'
theorem jt.imp[Mode]{P:Program}{f:FuncId}{as gs:List D}{Q Q':D->List D->Prop}(h:jt P f as gs Q)(hQ:∀r g,Q r g->Q' r g):jt P f as gs Q' :=
 ⟨h.1,fun w A vs gv Fs h0 h1 h2 h3 h4 h5 h6 h7=>(h.2 w A vs gv Fs h0 h1 h2 h3 h4 h5 h6 h7).mono fun _ _ ⟨rc,gs',v,F,gv',Fs',q,r⟩=>⟨rc,gs',v,F,gv',Fs',hQ _ _ q,r⟩⟩
def FH[Mode](P:Program)(f:FuncId)(as gs:List D)(rc:D):Prop :=
 fy P f=true/\∀(w:World)(A:Nat->Prop)(vs:Array Value)(gv:Nat->Value)(Fs:Nat->Nat->Prop),ck w A->(∀b,A b->b<w.heap.size)->vs.size=as.length ->
  (∀(j:Nat)(a:D),as[j]?=some a->Pl w A (aa w (nth gs) gv) (vs.getD j undef) a) ->
  (∀k,az w A (aa w (nth gs) gv) (gv k) (Fs k) (nth gs k))->(∀k,(nth gs k).isObj=false->∀b,¬Fs k b) ->
  (∀i j b,i≠j->Fs i b->¬Fs j b)->(∀k b,Fs k b->b<w.heap.size/\¬A b) ->
  Calls P f vs w fun e w'=>∃v:Value,e=.returned v/\w.heap.size<=w'.heap.size/\(∀b,b<w.heap.size->w'.heap[b]?=w.heap[b]?) /\
   Pl w' (fun b=>A b\/(w.heap.size<=b/\b<w'.heap.size)) (aa w (nth gs) gv) v rc/\w'.os=w.os/\w'.tape=w.tape/\bQ w w'
mutual
def D.tight:D->Bool
 | .int _ _=>true
 | .bool _=>true
 | .str _=>true
 | .aF=>true
 | .aM _=>true
 | .dead=>true
 | .sub _ _=>true
 | .aq _ _=>true
 | .fn _ l=>jo l
 | .agg l=>jo l
 | .au l=>jo l
 | _=>false
def jo:List D->Bool
 | []=>true
 | x::r=>x.tight&&jo r
end
def D.oJ:D->Bool
 | .o x=>x.bp
 | c=>c.tight
def oK:List D->Bool
 | []=>true
 | x::r=>x.oJ&&oK r
def D.jq:D->Bool
 | .box l=>oK l
 | .row _ l=>jo l
 | c=>c.oJ
def lM:List D->Bool
 | []=>true
 | x::r=>x.jq&&lM r
class KH where
 k:St->Prop
def D.Aw:D->D
 | .vw d=>d
 | d=>d
def D.Ax:D->D
 | .agg l=>.agg (l.map D.Aw)
 | d=>d
theorem Md{w:World}{A:Nat->Prop}{v:Value}{d:D}(h:Rd w A v d):Rd w A v d.Aw:=by
 cases d<;>first | exact h | (cases h;assumption)
theorem Me{w:World}{A:Nat->Prop}{v:Value}{d:D}(h:Rd w A v d):Rd w A v d.Ax:=by
 cases d with
 | agg l =>
  cases h with
  | agg hs hr =>
   refine .agg (by rw[List.length_map];exact hs) fun j x hx=>?_
   rw[List.getElem?_map,Option.map_eq_some_iff] at hx;obtain⟨y,hy,rfl⟩:=hx;exact Md (hr j y hy)
 | _=>exact h
def uu(g:Option Bool)(res c:D):Prop :=
 match g with
 | none=>c=aJ res\/c=aJ (.vw res)
 | some b=>c=.when b res\/c=.when b res.Ax
def nH[Mode](P:Program)(f:FuncId)(ds:Option (List D))(gt:Bool)(pl:Prop)(g:Option Bool)[K:KH](st:St):Prop :=
 ∃l res c,ds=some l/\ji g (gt=true/\aD P f (l.map .v) res/\(res.bp=true\/pl))/\uu g res c/\K.k (st.push c)
def D.uS(c:D)(p:Path)(y:D):D:=c.setAt p (if bc c p=true then .o y else y)
def nN(x:D)(r:List D)(y:D)(K:St->Prop)(st:St):Prop :=
 match x with
 | .sub k (s::p)=>y.isAgg=false/\bD (fun d=>bt k (s::p) d=false) r/\K ((st.kill (bt k (s::p))).put k (((st.kill (bt k (s::p))).cont k).uS (s::p) y))
 | _=>K st
def er:List D->List D->(St->Prop)->St->Prop
 | [],[],K,st=>K st
 | x::r,y::ys,K,st=>nN x r y (er r ys K) st
 | _,_,_,_=>False
def mj[Mode](P:Program)(f:FuncId)(d:D)(ds:Option (List D))(gt:Bool)(pl:Prop)(g:Option Bool)[K:KH](st:St):Prop :=
 g=none/\gt=true/\pl/\∃dl,ds=some dl/\match d with
  | .aq k [(0,0)]=>∃l l' res,st.cont k=.box l/\bD cz l/\bD cz l'/\l'.length=l.length/\aD P f (.io (.box l) (.box l')::dl.map .v) res/\K.k (((st.kill (bb k [(0,0)])).put k (.box l')).push (aJ res))
  | .sub k []=>∃x y res,st.cont k=.o x/\aD P f (.io (.o x) (.o y)::dl.map .v) res/\K.k (((st.kill (bt k [])).put k (.o y)).push (aJ res))
  | .sub k (s::p)=>bR [.sub k (s::p)] (fun l st=>∃x y res,l=[x]/\aD P f (.io (.o x) (.o y)::dl.map .v) res/\er [.sub k (s::p)] [y] (fun st=>K.k (st.push (aJ res))) st) st
  | .agg l=>bR l (fun xs st=>∃ys res,aD P f (.io (.o (.agg xs)) (.o (.agg ys))::dl.map .v) res/\er l ys (fun st=>K.k (st.push (aJ res))) st) st
  | _=>False
def sg(n:Nat)(js:List Nat)(i:Nat):Nat:=(js[i]?).getD (1000+n+i)
def kX(st:St)(σ:Nat->Nat):List Nat->List D->Prop
 | [],[]=>True
 | j::js,g::gs=>st.cont j=g.ai σ/\kX st σ js gs
 | _,_=>False
def kr(st:St)(σ:Nat->Nat)(js:List Nat)(tg:Bool):List D->List D->Prop
 | [],[]=>True
 | d::ds,a::as=>(d=a.ai σ\/(tg=true/\aW (fun k=>if js.contains k=true then .dead else st.cont k) 4 d=some a))/\kr st σ js tg ds as
 | _,_=>False
def tl:D->D->Bool
 | .o _,.o _=>true
 | _,_=>false
def tj:D->D->Bool
 | .box l,.box l'=>l.length == l'.length
 | _,_=>false
def mO(j:Nat)(g h:D):D->Bool
 | .sub k p=>k == j&&!(p.isEmpty&&tl g h)
 | .aq k p=>k == j&&!(p.length == 1&&tj g h)
 | _=>false
def qG:List Nat->List D->List D->D->Bool
 | j::js,g::gs,h::hs,d=>mO j g h d || qG js gs hs d
 | _,_,_,_=>false
def fZ(σ:Nat->Nat)(st:St):List Nat->List D->St
 | j::js,h::hs=>fZ σ (st.put j (h.ai σ)) js hs
 | _,_=>st
def lf:List D->List D->Prop
 | [],[]=>True
 | g::gs,h::hs=>(g=.dead->h=.dead)/\lf gs hs
 | _,_=>False
def AT[Mode](P:Program)(f:FuncId)(ds:List D)(st:St)(K:D->St->Prop):Prop :=
 ∃(js:List Nat)(tg:Bool)(as gs:List D)(Q:D->List D->Prop),jt P f as gs Q/\(js.Nodup/\js.all (fun j=>decide (j<1000+st.n))=true)/\kX st (sg st.n js) js gs/\kr st (sg st.n js) js tg ds as /\
  ∀rc gs',Q rc gs'->lf gs gs'/\(tg=true->rc.jq=true/\lM gs'=true)/\K (rc.ai (sg st.n js)) (fZ (sg st.n js) (st.kill (qG js gs gs')) js gs')
def LA[Mode](P:Program)(f:FuncId)(ds:List D)(st:St)(K:D->Prop):Prop :=
 ∃l res,dt (aW st.cont 4) ds=some l/\fy P f=true/\aD P f ((stripL l).map .v) res/\res.bp=true/\K (aJ res)
def nQ[Mode](P:Program)(f:FuncId)(ds:List D)(gt:Bool)(gd:Bool)[K:KH](st:St):Prop :=
 gt=true/\((AT P f ds st fun c st=>(gd=true->c.bC=true)/\K.k (st.push (if gd=true then .when true c else c)))\/(gd=false/\LA P f ds st fun c=>K.k (st.push c)))
def jB[Mode](P:Program)(x:D)(ds:List D)(gt:Bool)(gd:Bool)[KH](st:St):Prop :=
 match x with
 | .fn f caps=>nQ P f (ds++caps) gt gd st
 | _=>False
def gX[Mode](P:Program)(x:D)(ds:List D)(gt:Bool)(g:Option Bool)[K:KH](st:St):Prop :=
 match g with
 | none=>jB P x ds gt false st
 | some true=>jB P x ds gt true st
 | some false=>K.k (st.push (.when false (.bool false)))
def dL(rd:X->D):List X->List D
 | []=>[]
 | x::r=>(rd x).core::dL rd r
theorem LB[Mode]{P:Program}{f:FuncId}{ds l xs:List D}{K:St->Prop}{st:St}{res:D}(hl:dt (aW st.cont 4) ds=some l)(hx:stripL l=xs)(hb:fy P f=true)(hR:aD P f (xs.map .v) res)(hn:res.bp=true)(hK:K (st.push (aJ res))):@nQ _ P f ds true false ⟨K⟩ st :=
 ⟨rfl,.inr ⟨rfl,l,res,hl,hb,hx▸hR,hn,hK⟩⟩
theorem Hk[Mode]{P:Program}{f:FuncId}{ds:List D}{K:St->Prop}{st:St}{as gs gs':List D}{rc:D}(js:List Nat)(tg:Bool)(hR:km P f as gs rc gs')(hn:js.Nodup/\js.all (fun j=>decide (j<1000+st.n))=true)(hl:kX st (sg st.n js) js gs)(ha:kr st (sg st.n js) js tg ds as)
  (hw:lf gs gs') (ht:tg=true->rc.jq=true/\lM gs'=true) (hK:K ((fZ (sg st.n js) (st.kill (qG js gs gs')) js gs').push (rc.ai (sg st.n js)))):@nQ _ P f ds true false ⟨K⟩ st :=
 ⟨rfl,.inl ⟨js,tg,as,gs,_,hR,hn,hl,ha,fun _ _ h=>by obtain⟨rfl,rfl⟩:=h;exact⟨hw,ht,fun h=>(by cases h),hK⟩⟩⟩
def sj(js:List Nat)(i:Nat):Nat:=(js[i]?).getD 0
def iX(n:Nat):D->Prop
 | .sub k _=>k<n
 | .aq k _=>k<n
 | _=>True
def pQ(ob:Nat->D)(σ:Nat->Nat):List Nat->List D->Prop
 | [],[]=>True
 | j::js,g::gs=>(j<1000/\ob j=g.ai σ)/\pQ ob σ js gs
 | _,_=>False
def uh(σ:Nat->Nat):List D->List D->Prop
 | [],[]=>True
 | d::ds,a::as=>d=a.ai σ/\uh σ ds as
 | _,_=>False
def lT[Mode](P:Program)(f:FuncId)(ob:Nat->D)(ds:List D)(c:D):Prop :=
 ∃(js:List Nat)(as gs:List D)(rc:D),FH P f as gs rc/\js.Nodup/\pQ ob (sj js) js gs/\uh (sj js) ds as/\(bD (iX js.length) as/\bD (iX js.length) gs/\rc.refs (iX js.length))/\rc.bC=true/\c=rc.ai (sj js)
def Gu[Mode](P:Program)(f:FuncId)(ds:List D)[K:KH](st:St):Prop:=∃c,lT P f st.cont ds c/\K.k (st.push c)
def iM(d:D)(K:D->St->Prop)(st:St):Prop :=
 match d with
 | .aq j [(0,0)]=>((st.kill (aP j)).cont j).isObj=true/\(st.cont j).fU=false/\K ((st.kill (aP j)).cont j) ((st.kill (aP j)).put j .dead)
 | _=>False
def ku(j:Nat)(x:D)(K:St->Prop)(st:St):Prop :=
 aw x (fun d st=>K (((st.kill (aP j)).put j (aJ d)).push .dead)) st
def D.lv:D->Bool
 | .o _ | .box _ | .row _ _ | .when _ _ | .dead=>false
 | _=>true
def nC(j:Nat)(x:D)(K:St->Prop)(st:St):Prop :=
 x.refs (bO j)/\x.lv=true/\K (((st.kill (aP j)).put j x).push .dead)
def gC:Path->Path
 | []=>[]
 | [_]=>[]
 | s::t::r=>s::gC (t::r)
def jO:Path->Bool
 | []=>false
 | [s]=>s.1 == 0&&s.2 == 0
 | _::t::r=>jO (t::r)
def D.pN:D->Bool
 | .ptr _=>true
 | _=>false
def jv(j:Nat)(x:D)(K:St->Prop)(st:St):Prop :=
 match x with
 | .aq k q=>jO q=true/\du k (gC q) (fun d st=>d.pN=true/\K (((st.kill (aP j)).put j (aJ d)).push .dead)) st
 | x=>ku j x K st
theorem Bw:∀{q:Path},jO q=true->q=gC q++[(0,0)]
 | [],h=>by cases h
 | [(a,b)],h=>by
  simp only[jO,Bool.and_eq_true,beq_iff_eq] at h;rw[h.1,h.2];rfl
 | s::t::r,h=>by
  have:=Bw (q:=t::r) h;show s::t::r=s::(gC (t::r)++[(0,0)]);rw[<-this]
def xc(k:Nat)(p:Path):D->Prop
 | .sub j q=>j≠k\/(q≠[]/\fE q p=false)
 | _=>True
def dB(c:D)(p:Path):Nat->List D->D
 | _,[]=>c
 | j,y::r=>dB (c.setAt (bump p j) (if bc c (bump p j)=true then aJ y else y)) p (j+1) r
def jV(c:D)(p:Path):Nat->List D->Prop
 | _,[]=>True
 | j,y::r=>c.aR (bump p j)/\y.isAgg=false/\jV c p (j+1) r
def D.nz:D->Bool
 | .aq _ _=>true
 | _=>false
def ng(k:Nat)(p:Path)(x:D)(K:St->Prop)(st:St):Prop :=
 match x with
 | .aq j q=>jO q=true/\j≠k/\du j (gC q) (fun d st=>d.pN=true/\jV ((st.kill (bb k p)).cont k) p 0 [d] /\
    K (((st.kill (bb k p)).put k (dB ((st.kill (bb k p)).cont k) p 0 [d])).push .dead)) st
 | _=>False
def j6(b:Bool)(n k:Nat)(p:Path)(x:D)(K:St->Prop)(st:St):Prop :=
 match b with
 | true=>n=1/\ng k p x K st
 | false=>b7 x.cellsOf fun l=>l.length=n/\bD (xc k p) l/\bR l (fun l' st=>jV ((st.kill (bb k p)).cont k) p 0 l' /\
    K (((st.kill (bb k p)).put k (dB ((st.kill (bb k p)).cont k) p 0 l')).push .dead)) st
def iD(n:Nat)(a x:D)(K:St->Prop)(st:St):Prop :=
 match a with
 | .aq k p=>j6 x.nz n k p x K st
 | _=>False
def D.fL:D->Bool
 | .int _ _ | .bool _ | .str _ | .aF | .slice _ _ | .ptr _ | .aM _ | .sub _ _ | .aq _ _=>true
 | _=>false
def mS:List D->Bool
 | []=>true
 | x::r=>x.fL&&mS r
def D.pq:D->Option (List D)
 | .box l=>some l
 | _=>none
def mr:Path->Bool
 | []=>false
 | [s]=>s.1 == 0&&s.2 == 0
 | _::_::_=>false
theorem HN:∀{p:Path},mr p=true->p=[(0,0)]
 | [],h=>by cases h
 | [(a,b)],h=>by
  simp only[mr,Bool.and_eq_true,beq_iff_eq] at h;rw[h.1,h.2]
 | _::_::_,h=>by cases h
def oE(b:Bool)(n k:Nat)(p:Path)(x:D)(K:St->Prop)(st:St):Prop :=
 match b with
 | true=>b7 (st.cont k).pq fun l0=>l0.length=n/\b7 x.cellsOf fun l=>l.length=n/\mS l=true/\bD (fun d=>bb k [(0,0)] d=false) l /\
   K (((st.kill (bb k [(0,0)])).put k (.box l)).push .dead)
 | false=>j6 x.nz n k p x K st
def lI(n:Nat)(a x:D)(K:St->Prop)(st:St):Prop :=
 match a with
 | .aq k p=>oE (mr p) n k p x K st
 | _=>False
def D.gk:D->Option (List D)
 | .slice _ l=>some l
 | .aM _=>some []
 | _=>none
def lH(st:St)(x:D):Option (List D) :=
 match x with
 | .sub k p=>(lk st.cont k).bind fun c=>(c.a8 p).gk
 | x=>x.gk
def D.dY(y:D)(M:List D):D :=
 match y with
 | .slice z L=>.slice z (L++M)
 | y=>y
def D.row?:D->Option (List D)
 | .row _ l=>some l
 | _=>none
def isRow(st:St)(x:D):Option (List D) :=
 match x with
 | .sub k []=>(st.cont k).row?
 | _=>none
def fP(s:D)(K:D->St->Prop)(st:St):Prop :=
 match s with
 | .sub k p=>du k p K st
 | .aM z=>K (.slice z []) st
 | _=>False
def qY(st:St)(x:D):Option (List D ⊕ List D) :=
 match isRow st x with
 | some l=>some (.inl l)
 | none=>(lH st x).bind fun M=>some (.inr M)
def qd(sz:Nat):List D->Prop
 | []=>True
 | e::r=>e.cells.length=sz/\qd sz r
def D.nT:D->Bool
 | .slice _ _=>true
 | _=>false
def D.fH:D->Bool
 | .int _ _ | .bool _ | .str _ | .slice _ _ | .aF | .ptr _ | .mp _ _ | .bw | .bq _ _ | .bl=>true
 | _=>false
def mF:List D->Bool
 | []=>true
 | x::r=>x.fH&&mF r
def D.vC(sz:Nat)(e:D):Bool:=decide (e.cells.length=sz)&&mF e.cells
def D.oa:D->Bool
 | .slice z _=>z.nT || z.isAgg
 | _=>false
def D.vD:D->Bool
 | .o x=>x.oa
 | _=>false
def mC(st:St)(x:D):Option (Nat×Path) :=
 match x with
 | .sub k []=>if(st.cont k).vD=true then some (k,[]) else none
 | .sub k (q::p)=>if((st.cont k).a8 (q::p)).oa=true then some (k,q::p) else none
 | _=>none
def lY(sz bytes:Nat)(s x:D)(K:St->Prop)(st:St):Prop :=
 match mC st x with
 | some k=>x.refs (lD [s])/\du k.1 k.2 (fun y st=>y.fC=sz/\b7 y.gk fun M=>(∀e∈M,e.vC sz=true) /\
   fP s (fun y st=>y.fC=sz/\b7 y.bM fun m=>(m+M.length)*bytes<=140737488355328/\K (st.push (.o (y.dY M)))) st) st
 | none=>b7 (qY st x) fun src=>match src with
 | .inl l=>qd sz l/\bD (lD [s]) l/\bR l (fun M st=>fP s (fun y st=>y.fC=sz/\b7 y.bM fun m=>(m+M.length)*bytes<=140737488355328/\K (st.push (.o (y.dY M)))) st) st
 | .inr M=>(∀e∈M,e.bX=true)/\sz=1/\x.refs (lD [s])/\fP s (fun y st=>y.fC=sz/\b7 y.bM fun m=>(m+M.length)*bytes<=140737488355328/\K (st.push (.o (y.dY M)))) st
def eE:List D->List D->(List D->St->Prop)->St->Prop
 | done,[],K,st=>K done st
 | done,.sub k p::r,K,st=>bD (kq k p) (done++r)/\du k p (fun x st=>eE (done++[aJ x]) r K st) st
 | done,x::r,K,st=>x.pc=true/\eE (done++[x]) r K st
def nG(n:Nat)(x:D)(K:St->Prop)(st:St):Prop :=
 match x.cellsOf with
 | none=>False
 | some l=>(l.length=n/\0<n)/\eE [] l (fun l' st=>K (st.push (.box l'))) st
def nE(z x:D)(K:St->Prop)(st:St):Prop :=
 match x.cellsOf with
 | none=>False
 | some l=>l.length=z.cells.length/\bR l (fun l' st=>K (st.push (.o (.slice z [.agg l'])))) st
def px(d s:D)[K:KH](st:St):Prop :=
 match d with
 | .sub k (q::p)=>∃M,lH st s=some M/\(∀e∈M,e.bX=true)/\bR [.sub k (q::p)] (fun l st=>∃z L,l=[.slice z L]/\(z.cells.length=1/\∀e∈L,e.bX=true) /\
   er [.sub k (q::p)] [.slice z (M.take L.length++L.drop M.length)] (fun st=>K.k (st.push (.int .i64 (min M.length L.length:Nat)))) st) st
 | _=>False
def mB(kk:Nat)(m k v:D)[K:KH](st:St):Prop :=
 k.ig kk=true/\v.bX=true/\match m with
 | .sub j []=>b7 ((st.cont j).o?.bind D.il) fun e=>b7 (eu k e.1) fun r=>e.1.length<maxLen/\K.k ((st.put j (.o (.mp (b6 k v e.1 e.2 r).1 (b6 k v e.1 e.2 r).2))).push .dead)
 | .sub j (s::p)=>bR [.sub j (s::p)] (fun l st=>b7 ((l.head?).bind D.il) fun e=>b7 (eu k e.1) fun r=>e.1.length<maxLen /\
   er [.sub j (s::p)] [.mp (b6 k v e.1 e.2 r).1 (b6 k v e.1 e.2 r).2] (fun st=>K.k (st.push .dead)) st) st
 | _=>False
def gO(s:List UInt8)(p:Nat):Nat×Nat:=Utf8.decode ⟨s.toArray⟩ p
def D.pO:D->Option (List UInt8×Nat)
 | .o (.bE s p)=>some (s,p)
 | _=>none
def mE(j:Nat)[K:KH](st:St):Prop :=
 b7 (st.cont j).pO fun e=>(e.2<e.1.length->K.k ((st.put j (.o (.bE e.1 (e.2+(gO e.1 e.2).2)))).push (.au [.bool true,.int .i64 e.2,.int .i32 (gO e.1 e.2).1]))) /\
  (e.1.length<=e.2->K.k (st.push (.au [.bool false])))
def pA(kb:Nat):Nat->List D->Prop
 | _,[]=>True
 | j,d::r=>d.refs (bO kb)/\(bB j d).core.refs (bO kb)/\pA kb (j+1) r
def ug(sz bytes b s:Nat)(K:St->Prop)(st:St):Prop :=
 sz=1/\b7 (st.cont (1000+s)).row? fun l=>iB l=true/\b7 (st.cont (1000+b)).o? fun y=>y.fC=1/\b7 y.bM fun m=>(m+l.length)*bytes<=140737488355328 /\
  pA (1000+b) 0 st.env/\bD (bO (1000+b)) st.tmp/\K ((st.put (1000+b) .dead).push (.o (y.dY l)))
def aZ[Mode](P:Program)(k:Kp)(g:Option Bool)(K:St->Prop)(st:St):Prop :=
 match k with
 | .bY j x=>g=none/\(st.rd x).gate=true/\ku j (st.rd x).core K st
 | .gT j x=>g=none/\(st.rd x).gate=true/\nC j (st.rd x).core K st
 | .call f xs=>@nH _ P f (fT st.cont st.rd xs) (cW st.rd xs) (iy st.rd xs) g ⟨K⟩ st
 | .fB f xs=>g=none/\cW st.rd xs=true/\@Gu _ P f (dL st.rd xs) ⟨K⟩ st
 | .st a x=>g=none/\((st.rd a).gate&&(st.rd x).gate)=true/\iD 1 (st.rd a).core (st.rd x).core K st
 | .gf n a x=>g=none/\((st.rd a).gate&&(st.rd x).gate)=true/\iD n (st.rd a).core (st.rd x).core K st
 | .jn n a x=>g=none/\((st.rd a).gate&&(st.rd x).gate)=true/\lI n (st.rd a).core (st.rd x).core K st
 | .app sz bytes s x=>g=none/\((st.rd s).gate&&(st.rd x).gate)=true/\lY sz bytes (st.rd s).core (st.rd x).core K st
 | .gj f (x::r)=>@mj _ P f (st.rd x).core (fT st.cont st.rd r) (cW st.rd (x::r)) (iy st.rd r) g ⟨K⟩ st
 | .gj _ []=>False
 | .dyn x xs=>@gX _ P (st.rd x).core (dL st.rd xs) (cW st.rd (x::xs)) g ⟨K⟩ st
 | .jx n x=>g=none/\(st.rd x).gate=true/\nG n (st.rd x).core K st
 | .bo x=>g=none/\(st.rd x).gate=true/\iM (st.rd x).core (fun c st=>K (st.push c)) st
 | .dw sz bytes b s=>g=none/\ug sz bytes b s K st
 | .cQ x y=>g=none/\((st.rd x).gate&&(st.rd y).gate)=true/\@px (st.rd x).core (st.rd y).core ⟨K⟩ st
 | .jR kk m k v=>g=none/\((st.rd m).gate&&(st.rd k).gate&&(st.rd v).gate)=true/\@mB kk (st.rd m).core (st.rd k).core (st.rd v).core ⟨K⟩ st
 | .jT j=>g=none/\@mE j ⟨K⟩ st
 | .fq x=>eh (bJ (.fq x) st.rd) g K st
 | .fg x=>eh (bJ (.fg x) st.rd) g K st
 | .box n x=>eh (bJ (.box n x) st.rd) g K st
 | .eK n x=>eh (bJ (.eK n x) st.rd) g K st
 | .dO zs=>eh (bJ (.dO zs) st.rd) g K st
 | .al z b l c=>eh (bJ (.al z b l c) st.rd) g K st
 | .dP z n ps=>eh (bJ (.dP z n ps) st.rd) g K st
 | .fk=>eh (bJ .fk st.rd) g K st
 | .jw z x=>g=none/\(st.rd x).gate=true/\nE z (st.rd x).core K st
 | .gW j x=>g=none/\(st.rd x).gate=true/\jv j (st.rd x).core K st
 | k=>fJ (bn k st.rd st.cont) g K st
def D.bool?:D->Option Bool
 | .bool b=>some b
 | _=>none
def gd(c:D)(want:Bool):Option Bool:=c.core.bool?.bind fun b=>some (c.gate&&(if want then b else !b))
def ib(v:Option Bool)(K:Bool->Prop):Prop :=
 match v with
 | some b=>K b
 | none=>False
def bA[Mode](P:Program)(K:St->Prop):List aO->St->Prop
 | [],st=>K st
 | ⟨none,k⟩::r,st=>aZ P k none (bA P K r) st
 | ⟨some (j,want),k⟩::r,st=>ib (gd (st.rd (.t j)) want) fun b=>aZ P k (some b) (bA P K r) st
structure Ex where
 ex:Nat->List D->Prop
 ret:List D->Prop
def gF(v:D)(A B:Prop):Prop :=
 match v with
 | .bool b=>(b=true->A)/\(b=false->B)
 | _=>False
def bF:List Nat->St->St
 | [],st=>st
 | j::r,st=>bF r ((st.kill (aP j)).put j .dead)
def gZ:List (Nat×Nat)->St->St
 | [],st=>st
 | (j,i)::r,st=>gZ r ((((st.kill (aP j)).kill (aP (1000+i))).put j ((((st.kill (aP j)).kill (aP (1000+i)))).cont (1000+i))).put (1000+i) .dead)
def wx(i k:Nat)(x:Option D)(st:St):St :=
 match x with
 | some x=>(((st.kill (aP k)).put k .dead).kill (aP (1000+i))).put (1000+i) (aJ x)
 | none=>st
def ix(i:Nat)(c:D)(st:St):St :=
 match c with
 | .sub k (s::p)=>if 1000<=k then(((st.kill (bt k (s::p))).put k (((st.kill (bt k (s::p))).cont k).hole (s::p))).kill (aP (1000+i))).put (1000+i) (aJ ((st.cont k).a8 (s::p))) else st
 | .sub k []=>if 1000<=k then wx i k (st.cont k).gB st else st
 | _=>st
def gx:List (Nat×Nat)->St->St
 | [],st=>st
 | (_,i)::r,st=>gx r (ix i (st.cont (1000+i)) st)
def fin(post:List (Nat×Nat))(st:St):List D:=((gZ post (gx post st)).kill ej).env
class LH where
 body:(List D->Prop)->Ex->List D->Prop
 E:Ex
def rZ[h:LH](env:List D):Prop :=
 ∃(js:List Nat)(α:Type)(S:α->List D)(I:α->Prop)(μ:α->Nat)(x0:α),I x0/\(bF js ⟨env,0,[]⟩).env=S x0/\∀x,I x->h.body (fun env'=>∃x',I x'/\μ x'<μ x/\(bF js ⟨env',0,[]⟩).env=S x') h.E (S x)
def mZ(env:List D):List (Nat×D)->List D
 | []=>env
 | (j,c)::r=>mZ (cL env j c) r
theorem ba{body:(List D->Prop)->Ex->List D->Prop}{E:Ex}{env:List D}{α:Type}(js:List Nat)(f:α->List (Nat×D))(I:α->Prop)(μ:α->Nat)(x0:α){env0:List D}(h0:(bF js ⟨env,0,[]⟩).env=env0)
  (hI:I x0) (he:env0=mZ env0 (f x0)) (h:∀x,I x->body (fun env'=>∃x',I x'/\μ x'<μ x/\(bF js ⟨env',0,[]⟩).env=mZ env0 (f x')) E (mZ env0 (f x))):@rZ ⟨body,E⟩ env :=
 ⟨js,α,fun x=>mZ env0 (f x),I,μ,x0,hI,by rw[h0];exact he,h⟩
theorem aC[Mode]{P:Program}{f:FuncId}{pl:Prop}{K:St->Prop}{st:St}{as:List Arg}{ds:List D}{res:D}(hR:aD P f as res)(ha:as=ds.map .v)(hn:res.bp=true\/pl)(hK:K (st.push (aJ res))):@nH _ P f (some ds) true pl none ⟨K⟩ st :=
 ⟨ds,res,_,rfl,⟨rfl,ha▸hR,hn⟩,.inl rfl,hK⟩
theorem dx[Mode]{P:Program}{f:FuncId}{gt:Bool}{pl:Prop}{K:St->Prop}{st:St}{as:List Arg}{ds:List D}{res:D}{b:Bool}(hR:b=true->aD P f as res)(ha:as=ds.map .v)(hgt:b=true->gt=true)(hn:res.bp=true\/pl)(hK:K (st.push (.when b res))) :
  @nH _ P f (some ds) gt pl (some b) ⟨K⟩ st:=⟨ds,res,_,rfl,fun hb=>⟨hgt hb,ha▸hR hb,hn⟩,.inl rfl,hK⟩
theorem pL[Mode]{P:Program}{f:FuncId}{pl:Prop}{K:St->Prop}{st:St}{as:List Arg}{ds:List D}{res:D}{k:Nat}{s:Nat×Nat}{p:Path}(hR:aD P f as res)(hpl:pl)
  (h:bR [.sub k (s::p)] (fun l st=>∃x y,l=[x]/\as=.io (.o x) (.o y)::ds.map .v/\er [.sub k (s::p)] [y] (fun st=>K (st.push (aJ res))) st) st):@mj _ P f (.sub k (s::p)) (some ds) true pl none ⟨K⟩ st :=
 ⟨rfl,rfl,hpl,ds,rfl,oU _ (fun _ _ ⟨x,y,h1,h2,h3⟩=>⟨x,y,res,h1,h2▸hR,h3⟩) h⟩
theorem HD[Mode]{P:Program}{f:FuncId}{pl:Prop}{K:St->Prop}{st:St}{as:List Arg}{ds l:List D}{res:D}(hR:aD P f as res)(hpl:pl)
  (h:bR l (fun xs st=>∃ys,as=.io (.o (.agg xs)) (.o (.agg ys))::ds.map .v/\er l ys (fun st=>K (st.push (aJ res))) st) st):@mj _ P f (.agg l) (some ds) true pl none ⟨K⟩ st :=
 ⟨rfl,rfl,hpl,ds,rfl,oU _ (fun _ _ ⟨ys,h2,h3⟩=>⟨ys,res,h2▸hR,h3⟩) h⟩
def lO[Mode](P:Program):RT->(List D->Prop)->St->Prop
 | .leaf l post,K,st=>bA P (fun st=>K (fin post st)) l st
 | .two _ _ _ a b,K,st=>lO P a K st/\lO P b K st
def bz[Mode](P:Program):C->(List D->Prop)->Ex->List D->Prop
 | .skip,K,_,env=>K env
 | .ops pre l post,K,_,env=>bA P (fun st=>K (fin post st)) l (bF pre ⟨env,0,[]⟩)
 | .om pre l post x a b,K,E,env=>bA P (fun st=>(st.rd x).gate=true/\gF (st.rd x).core (bz P a K E (fin post st)) (bz P b K E (fin post st))) l (bF pre ⟨env,0,[]⟩)
 | .sF pre l post x a b c,K,E,env=>bA P (fun st=>(st.rd x).gate=true/\gF (st.rd x).core (bz P a (bz P c K E) E (fin post st)) (bz P b (bz P c K E) E (fin post st))) l (bF pre ⟨env,0,[]⟩)
 | .seq a b,K,E,env=>bz P a (bz P b K E) E env
 | .cond x a b,K,E,env=>gF ((⟨env,0,[]⟩:St).rd x) (bz P a K E env) (bz P b K E env)
 | .block id c,K,E,env=>bz P c K ⟨fun i s=>if i=id then K s else E.ex i s,E.ret⟩ env
 | .loop c,_,E,env=>@rZ ⟨bz P c,E⟩ env
 | .exit id,_,E,env=>E.ex id env
 | .ret,_,E,env=>E.ret env
 | .alt pre t,K,_,env=>lO P t K (bF pre ⟨env,0,[]⟩)
theorem OT[Mode]{P:Program}{K:St->Prop}{st:St}:bA P K (oL []) st=K st:=rfl
theorem OS[Mode]{P:Program}{K:St->Prop}{k:Kp}{r:List Kp}{st:St}:bA P K (oL (k::r)) st=aZ P k none (bA P K (oL r)) st:=rfl
theorem OR[Mode]{P:Program}{K:List D->Prop}{E:Ex}{l:List Kp}{env:List D}:bz P (.u l) K E env=bA P (fun st=>K (fin [] st)) (oL l) (bF [] ⟨env,0,[]⟩):=rfl
theorem Lr[Mode]{P:Program}{K:St->Prop}{i:Nat}{g:Option Bool}{st:St}:aZ P (.m i) g K st=aZ P (.mv (.v i)) g K st:=rfl
theorem Lt[Mode]{P:Program}{K:St->Prop}{i:Nat}{g:Option Bool}{st:St}:aZ P (.n i) g K st=aZ P (.mv (.t i)) g K st:=rfl
theorem Lq[Mode]{P:Program}{K:St->Prop}{j i:Nat}{g:Option Bool}{st:St}:aZ P (.a j i) g K st=aZ P (.bY j (.t i)) g K st:=rfl
end Go.D3
namespace Go.D3
open Go
def ak{α:Type}(f:α->D)(d:α)(l:List α):D:=.slice (f d) (l.map f)
abbrev ints(l:List Int):D:=ak (D.int .i64) 0 l
abbrev bytes(l:List Int):D:=ak (D.int .u8) 0 l
abbrev kA(l:List Bool):D:=ak D.bool false l
abbrev lK(l:List (List UInt8)):D:=ak D.str [] l
abbrev aB(l:List (List Int)):D:=ak ints [] l
abbrev rf(l:List (List Bool)):D:=ak kA [] l
abbrev tx(l:List (List (List UInt8))):D:=ak lK [] l
abbrev nS(l:List (List (List Int))):D:=ak aB [] l
abbrev Bh(l:List (List (List (List Int)))):D:=ak nS [] l
theorem getD_map'{α β:Type}(f:α->β)(d:α)(l:List α)(i:Nat):(l.map f).getD i (f d)=f (l.getD i d):=by
 rw[List.getD_eq_getElem?_getD,List.getD_eq_getElem?_getD,List.getElem?_map];cases l[i]?<;>rfl
section ak
variable{α:Type}{f:α->D}{d:α}{l:List α}
theorem BI:(ak f d l).bM=some l.length:=by simp[ak,D.bM]
theorem BG{i:Nat}:(ak f d l).gG i=(f (l.getD i d)).cells:=by simp only[ak,D.gG,getD_map']
theorem IV{lo:Option X}:lL (ak f d l) lo=none:=rfl
theorem Ic:(ak f d l).cells=[ak f d l]:=rfl
theorem Ie:(ak f d l).cellsOf=some [ak f d l]:=rfl
theorem Ij:(ak f d l).core=ak f d l:=by simp[ak,D.core]
theorem Ip:(ak f d l).gate=true:=rfl
theorem IY:(ak f d l).un=ak f d l:=rfl
theorem IG{k:Nat}:bB k (ak f d l)=ak f d l:=rfl
theorem Io{k:Nat}{p:Path}:cw k p (ak f d l)=.sub k p:=rfl
theorem Ix{i o:Nat}:(ak f d l).db i o=(f (l.getD i d)).cells.getD o .dead:=by simp only[ak,D.db,getD_map']
theorem BK{i o:Nat}{y:D}:(ak f d l).cK i o y=.slice (f d) ((l.map f).set i (dC (f (l.getD i d)) o y)):=by simp only[ak,D.cK,getD_map']
theorem BH{i:Nat}{x:α}:D.slice (f d) ((l.map f).set i (f x))=ak f d (l.set i x):=by simp[ak,List.map_set]
theorem Ir{i o:Nat}:(ak f d l).dQ i o=(i<l.length/\o<(f d).cells.length):=by simp[ak,D.dQ]
theorem ID{i:Nat}{y:D}:(ak f d l).fY i y=iw (f (l.getD i d)) y:=by simp only[ak,D.fY,getD_map']
theorem Ia{M:List α}:(ak f d l).dY (M.map f)=ak f d (l++M):=by simp[ak,D.dY]
theorem sa{x:α}:(ak f d l).dY [f x]=ak f d (l++[x]):=by simp[ak,D.dY]
theorem Ib:(ak f d l).dY []=ak f d l:=by simp[ak,D.dY]
theorem Im:(ak f d l).fC=(f d).cells.length:=rfl
theorem It:(ak f d l).isAgg=false:=rfl
theorem Iu:(ak f d l).isObj=false:=rfl
theorem IE:(ak f d l).bC=true:=rfl
theorem IL:(ak f d l).lv=true:=rfl
theorem IS:(ak f d l).bX=false:=rfl
theorem Iy{q:D->Bool}:(ak f d l).kill q=ak f d l:=rfl
theorem IN{σ:Nat->Nat}:(ak f d l).ai σ=ak f d l:=rfl
theorem IX:(ak f d l).tight=false:=rfl
theorem IM{Q:D->Prop}:(ak f d l).refs Q=True:=rfl
theorem Ih:aJ (ak f d l)=.o (ak f d l):=rfl
theorem IQ:(ak f d l).fL=true:=rfl
theorem H9:(ak f d l).nz=false:=rfl
theorem II:(ak f d l).dT=some (.vw (ak f d l)):=rfl
theorem IJ:(ak f d l).oq=some (.vw (ak f d l)):=rfl
theorem Ii:aJ (.vw (ak f d l))=ak f d l:=rfl
theorem IH{i:Nat}{st:St}:ix i (ak f d l) st=st:=rfl
theorem H8{K:D->St->Prop}{st:St}:aw (ak f d l) K st=K (.vw (ak f d l)) st:=rfl
theorem Ik{a b:Nat}:(ak f d l).cut a b=some (ak f d ((l.take b).drop a)):=by simp[ak,D.cut,List.map_take,List.map_drop]
theorem Iz{ob:Nat->D}:jc ob (ak f d l)=some (True,.int .i64 l.length):=by simp[ak,jc,D.bM,one]
theorem Is{ob:Nat->D}{sz:Nat}{k:IntKind}{n:Int}:kR sz ob (ak f d l) (.int k n)=some (0<=n/\n<l.length/\(f (l.getD n.toNat d)).cells.length=sz,.ptr (f (l.getD n.toNat d)).cells):=by
 have h:kR sz ob (ak f d l) (.int k n)=(ak f d l).bM.bind fun m=>some (0<=n/\n<m/\((ak f d l).gG n.toNat).length=sz,.ptr ((ak f d l).gG n.toNat)):=rfl
 rw[h,BI,BG];rfl
theorem IU{st:St}:lH st (ak f d l)=some (l.map f):=rfl
theorem Iw:(ak f d l).nT=true:=rfl
theorem IB:(ak f d l).oa=((f d).nT || (f d).isAgg):=rfl
theorem IF:(ak f d l).fH=true:=rfl
theorem IA{st:St}:mC st (ak f d l)=none:=rfl
theorem Iv{st:St}:isRow st (ak f d l)=none:=rfl
theorem Il:(ak f d l).gk=some (l.map f):=rfl
theorem IP:(ak f d l).row?=none:=rfl
theorem BJ:(ak f d l).pc=true:=by simp[ak,D.pc]
theorem IK:(ak f d l).ey=some (ak f d l):=rfl
theorem IC(h:∀x,(f x).bp=true):(ak f d l).bp=true:=by
 simp only[ak,D.bp];induction l with
 | nil=>rfl
 | cons a l ih=>simp[dA,h,ih]
theorem Iq{ob:Nat->D}{n:Nat}:aW ob (n+1) (ak f d l)=some (ak f d l):=rfl
end ak
theorem Of:D.slice (.int .i64 0) []=ints []:=rfl
theorem Oe:D.slice (.int .u8 0) []=bytes []:=rfl
theorem Oc:D.slice (.bool false) []=kA []:=rfl
theorem Oj:D.slice (.str []) []=lK []:=rfl
theorem MF{n:Nat}:D.slice (.int .i64 0) (List.replicate n (.int .i64 0))=ints (List.replicate n 0):=by simp[ints,ak]
theorem ME{n:Nat}:D.slice (.int .u8 0) (List.replicate n (.int .u8 0))=bytes (List.replicate n 0):=by simp[bytes,ak]
theorem MC{n:Nat}:D.slice (.bool false) (List.replicate n (.bool false))=kA (List.replicate n false):=by simp[kA,ak]
theorem MI{n:Nat}:D.slice (.str []) (List.replicate n (.str []))=lK (List.replicate n []):=by simp[lK,ak]
theorem MG{n:Nat}:D.slice (ints []) (List.replicate n (ints []))=aB (List.replicate n []):=by simp[aB,ak]
theorem MD{n:Nat}:D.slice (kA []) (List.replicate n (kA []))=rf (List.replicate n []):=by simp[rf,ak]
theorem MJ{n:Nat}:D.slice (lK []) (List.replicate n (lK []))=tx (List.replicate n []):=by simp[tx,ak]
theorem MH{n:Nat}:D.slice (aB []) (List.replicate n (aB []))=nS (List.replicate n []):=by simp[nS,ak]
theorem Og:D.slice (ints []) []=aB []:=rfl
theorem Od:D.slice (kA []) []=rf []:=rfl
theorem Ol:D.slice (lK []) []=tx []:=rfl
theorem Oh:D.slice (aB []) []=nS []:=rfl
theorem Oi:D.slice (nS []) []=Bh []:=rfl
def mK{α β:Type}(f:α->D)(l:List (α×β)):List D:=l.map fun e=>f e.1
def mV{α β:Type}(g:β->D)(l:List (α×β)):List D:=l.map fun e=>g e.2
def br{α β:Type}(f:α->D)(g:β->D)(l:List (α×β)):D:=.mp (mK f l) (mV g l)
section maps
variable{α β:Type}{f:α->D}{g:β->D}{l:List (α×β)}{a:α}{b:β}
def dR[BEq α](l:List (α×β))(a:α):Option Nat:=l.findIdx? fun e=>a == e.1
def mz[BEq α](l:List (α×β))(a:α)(z:β):β:=((l.find? fun e=>a == e.1).map (·.2)).getD z
def BT[BEq α](l:List (α×β))(a:α):Bool:=l.any fun e=>a == e.1
def fW[BEq α](l:List (α×β))(a:α)(b:β):List (α×β) :=
 match dR l a with
 | some i=>l.set i ((l.getD i (a,b)).1,b)
 | none=>l++[(a,b)]
theorem Js:D.mp (mK f l) (mV g l)=br f g l:=rfl
theorem Jz:(br f g l).il=some (mK f l,mV g l):=rfl
theorem JA:(br f g l).n9=some (mK f l,mV g l):=rfl
theorem IZ:(mK f l).length=l.length:=by simp[mK]
theorem Ju:(br f g l).isAgg=false:=rfl
theorem Jq:(br f g l).core=br f g l:=by simp[br,D.core]
theorem Jt:(br f g l).gate=true:=rfl
theorem Jr{k:Nat}{p:Path}:cw k p (br f g l)=.sub k p:=rfl
theorem JE{k:Nat}:bB k (br f g l)=br f g l:=rfl
theorem Jn{k:Nat}{p:Path}:pr k p (br f g l)=br f g l:=rfl
theorem JK:(br f g l).un=br f g l:=rfl
theorem Jl:(br f g l).cells=[br f g l]:=rfl
theorem Jk:(br f g l).nz=false:=rfl
theorem Jm:(br f g l).cellsOf=some [br f g l]:=rfl
theorem Jv:(br f g l).isObj=false:=rfl
theorem JD:(br f g l).bC=true:=rfl
theorem Jy{q:D->Bool}:(br f g l).kill q=br f g l:=rfl
theorem JI{σ:Nat->Nat}:(br f g l).ai σ=br f g l:=rfl
theorem JH{Q:D->Prop}:(br f g l).refs Q=True:=rfl
theorem Jo:aJ (br f g l)=.o (br f g l):=rfl
theorem Jp:aJ (.vw (br f g l))=br f g l:=rfl
theorem JF:(br f g l).pc=true:=rfl
theorem JG:(br f g l).ey=some (br f g l):=rfl
theorem JC:(br f g l).bp=true:=rfl
theorem JJ:(br f g l).tight=false:=rfl
theorem Jw:(br f g l).nT=false:=rfl
theorem JB:(br f g l).oa=false:=rfl
theorem BS[BEq α](h:∀a b,jK (f a) (f b)=some (a == b)):eu (f a) (mK f l)=some (dR l a):=by
 unfold mK dR;induction l with
 | nil=>rfl
 | cons e r ih =>
  simp only[List.map_cons,eu,h,Option.bind_some,ih,List.findIdx?_cons];cases a == e.1<;>rfl
theorem I3{l:List (List UInt8×β)}{a:List UInt8}:eu (.str a) (mK D.str l)=some (dR l a):=BS fun _ _=>rfl
theorem I2{k:IntKind}{l:List (Int×β)}{a:Int}:eu (.int k a) (mK (D.int k) l)=some (dR l a):=BS fun a b=>by simp[jK]
theorem sk[BEq α]:b6 (f a) (g b) (mK f l) (mV g l) (dR l a)=(mK f (fW l a b),mV g (fW l a b)):=by
 unfold fW mK mV;cases h:dR l a with
 | none=>simp[b6]
 | some i =>
  have hi:i<l.length:=by
   unfold dR at h;rw[List.findIdx?_eq_some_iff_findIdx_eq] at h;exact h.1
  simp only[b6,List.map_set];congr 1;have:f (l.getD i (a,b)).1=(l.map fun e=>f e.1)[i]'(by simpa using hi):=by simp[List.getD_eq_getElem?_getD,hi]
  rw[this,List.set_getElem_self]
theorem BX[BEq α]{z:β}:gL (g z) (mV g l) (dR l a)=g (mz l a z):=by
 unfold dR mz mV;induction l with
 | nil=>rfl
 | cons e r ih =>
  rw[List.findIdx?_cons,List.find?_cons];cases h:a == e.1 with
  | true=>simp[gL]
  | false =>
   simp only[Bool.false_eq_true,if_false] at ih|-
   rw[<-ih];cases r.findIdx? (fun e=>a == e.1)<;>simp[gL]
theorem I4[BEq α]:(dR l a).isSome=BT l a:=by
 unfold dR BT;rw[List.findIdx?_isSome]
theorem JS[BEq α]{k:IntKind}{l:List (α×Int)}{z:Int}:gL (.int k z) (mV (D.int k) l) (dR l a)=.int k (mz l a z):=BX
theorem JR[BEq α]{l:List (α×Bool)}{z:Bool}:gL (.bool z) (mV D.bool l) (dR l a)=.bool (mz l a z):=BX
theorem JO{k:IntKind}{l:List (List UInt8×Int)}{a:List UInt8}{b:Int}:b6 (.str a) (.int k b) (mK D.str l) (mV (D.int k) l) (dR l a)=(mK D.str (fW l a b),mV (D.int k) (fW l a b)):=sk
theorem JN{l:List (List UInt8×Bool)}{a:List UInt8}{b:Bool}:b6 (.str a) (.bool b) (mK D.str l) (mV D.bool l) (dR l a)=(mK D.str (fW l a b),mV D.bool (fW l a b)):=sk
theorem JM{j k:IntKind}{l:List (Int×Int)}{a b:Int}:b6 (.int j a) (.int k b) (mK (D.int j) l) (mV (D.int k) l) (dR l a)=(mK (D.int j) (fW l a b),mV (D.int k) (fW l a b)):=sk
theorem JL{j:IntKind}{l:List (Int×Bool)}{a:Int}{b:Bool}:b6 (.int j a) (.bool b) (mK (D.int j) l) (mV D.bool l) (dR l a)=(mK (D.int j) (fW l a b),mV D.bool (fW l a b)):=sk
end maps
abbrev zT(s:List UInt8):List Int:=s.map fun b=>(b.toNat:Int)
def byteOf(n:Int):UInt8:=UInt8.ofNat n.toNat
theorem Gj{s:List UInt8}:ur s=bytes (zT s):=by simp[ur,bytes,ak,zT,Function.comp_def]
theorem zU:∀{l:List Int},bytesOf (l.map (D.int .u8))=some (l.map byteOf)
 | []=>rfl
 | a::r=>by simp only[List.map_cons,bytesOf,zU (l:=r),Option.bind_some];rfl
theorem Gl{l:List Int}:(ak (D.int .u8) 0 l).jy=some (l.map byteOf):=zU
attribute [go_sem] Js Jz JA IZ Ju Jq Jt Jr JE Jn JK Jl Jm Jv JD Jy JI JH Jo Jp JF JG JC JJ Jw JB
 I3 I2 I4 JS JR JO JN JM JL Gj Gl List.head?_cons
section
variable{P:Program}{K:St->Prop}{E:Ex}{st st':St}{env env':List D}
@[congr] theorem Qf[Mode]{c:C}{K:List D->Prop}(h:env=env'):bz P c K E env=bz P c K E env':=by rw[h]
@[congr] theorem Qg[Mode]{l:List aO}(h:st=st'):bA P K l st=bA P K l st':=by rw[h]
@[congr] theorem PU[Mode]{k:Kp}{g g':Option Bool}(hg:g=g')(h:st=st'):aZ P k g K st=aZ P k g' K st':=by rw[h,hg]
@[congr] theorem P7{r r':Option PR}{g g':Option Bool}(h:r=r')(hg:g=g'):fJ r g K st=fJ r' g' K st:=by rw[h,hg]
@[congr] theorem PS{r r':Option PR}{g g':Option Bool}(h:r=r')(hg:g=g'):eh r g K st=eh r' g' K st:=by rw[h,hg]
@[congr] theorem PM{v v':Option Bool}{K:Bool->Prop}(h:v=v'):ib v K=ib v' K:=by rw[h]
@[congr] theorem PE{v v':D}{A B:Prop}(h:v=v'):gF v A B=gF v' A B:=by rw[h]
@[congr] theorem PV{α:Type}{v v':Option α}{K:α->Prop}(h:v=v'):b7 v K=b7 v' K:=by rw[h]
@[congr] theorem Pw{j:Nat}{x x':D}(h:x=x'):ku j x K st=ku j x' K st:=by rw[h]
@[congr] theorem Px{j:Nat}{x x':D}(h:x=x'):jv j x K st=jv j x' K st:=by rw[h]
@[congr] theorem Pv{j:Nat}{x x':D}(h:x=x'):nC j x K st=nC j x' K st:=by rw[h]
@[congr] theorem Ps{x x':D}{K:D->St->Prop}(h:x=x')(hs:st=st'):aw x K st=aw x' K st':=by rw[h,hs]
@[congr] theorem Pt{x x':List D}{K:List D->St->Prop}(h:x=x')(hs:st=st'):bR x K st=bR x' K st':=by rw[h,hs]
@[congr] theorem Qd{k:Nat}{p p':Path}{K:D->St->Prop}(h:p=p')(hs:st=st'):du k p K st=du k p' K st':=by rw[h,hs]
@[congr] theorem Py{x x':D}{K:D->St->Prop}(h:x=x')(hs:st=st'):fP x K st=fP x' K st':=by rw[h,hs]
@[congr] theorem Qc{b b':Bool}{n k:Nat}{p:Path}{x x':D}(h:b=b')(hs:x=x'):oE b n k p x K st=oE b' n k p x' K st:=by rw[h,hs]
@[congr] theorem Qa{n:Nat}{a a' x x':D}(h:a=a')(hs:x=x'):lI n a x K st=lI n a' x' K st:=by rw[h,hs]
@[congr] theorem Qb{b b':Bool}{n k:Nat}{p:Path}{x x':D}(h:b=b')(hs:x=x'):j6 b n k p x K st=j6 b' n k p x' K st:=by rw[h,hs]
@[congr] theorem P9{k:Nat}{p:Path}{x x':D}(hs:x=x'):ng k p x K st=ng k p x' K st:=by rw[hs]
@[congr] theorem P8{n:Nat}{a a' x x':D}(h:a=a')(hs:x=x'):iD n a x K st=iD n a' x' K st:=by rw[h,hs]
@[congr] theorem Pu{n m:Nat}{a a' x x':D}(h:a=a')(hs:x=x'):lY n m a x K st=lY n m a' x' K st:=by rw[h,hs]
@[congr] theorem PD[Mode]{f:FuncId}{ds ds':Option (List D)}{gt gt':Bool}{pl pl':Prop}{g g':Option Bool}{K:KH}(h1:ds=ds')(h2:gt=gt')(h3:pl=pl')(h:g=g')(hs:st=st'):nH P f ds gt pl g st=nH P f ds' gt' pl' g' st':=by rw[h1,h2,h3,h,hs]
@[congr] theorem PN[Mode]{f:FuncId}{d d':D}{ds ds':Option (List D)}{gt gt':Bool}{pl pl':Prop}{g g':Option Bool}{K:KH}(h0:d=d')(h1:ds=ds')(h2:gt=gt')(h3:pl=pl')(h:g=g')(hs:st=st'):mj P f d ds gt pl g st=mj P f d' ds' gt' pl' g' st':=by rw[h0,h1,h2,h3,h,hs]
@[congr] theorem PK{l l' ys ys':List D}{K:St->Prop}(h0:l=l')(h1:ys=ys')(hs:st=st'):er l ys K st=er l' ys' K st':=by rw[h0,h1,hs]
@[congr] theorem PI{x x' y y':D}{r r':List D}{K:St->Prop}(h0:x=x')(h1:y=y')(h2:r=r')(hs:st=st'):nN x r y K st=nN x' r' y' K st':=by rw[h0,h1,h2,hs]
@[congr] theorem PL[Mode]{f:FuncId}{ds ds':List D}{gt gt':Bool}{g g':Bool}{K:KH}(h1:ds=ds')(h2:gt=gt')(h:g=g')(hs:st=st'):nQ P f ds gt g st=nQ P f ds' gt' g' st':=by rw[h1,h2,h,hs]
@[congr] theorem PG[Mode]{x x':D}{ds ds':List D}{gt gt':Bool}{g g':Bool}{K:KH}(h0:x=x')(h1:ds=ds')(h2:gt=gt')(h:g=g')(hs:st=st'):jB P x ds gt g st=jB P x' ds' gt' g' st':=by rw[h0,h1,h2,h,hs]
@[congr] theorem PB{x x':D}{K:D->St->Prop}(h:x=x')(hs:st=st'):iM x K st=iM x' K st':=by rw[h,hs]
@[congr] theorem Qe{d d' l l':List D}{K:List D->St->Prop}(h:d=d')(h':l=l')(hs:st=st'):eE d l K st=eE d' l' K st':=by rw[h,h',hs]
@[congr] theorem PC{n:Nat}{x x':D}(h:x=x')(hs:st=st'):nG n x K st=nG n x' K st':=by rw[h,hs]
@[congr] theorem Pz{z x x':D}(h:x=x')(hs:st=st'):nE z x K st=nE z x' K st':=by rw[h,hs]
@[congr] theorem PF{x x' y y':D}{K:KH}(h:x=x')(h':y=y')(hs:st=st'):px x y st=px x' y' st':=by rw[h,h',hs]
@[congr] theorem PQ{kk:Nat}{x x' y y' z z':D}{K:KH}(h:x=x')(h':y=y')(h2:z=z')(hs:st=st'):mB kk x y z st=mB kk x' y' z' st':=by rw[h,h',h2,hs]
@[congr] theorem PT{j:Nat}{K:KH}(hs:st=st'):mE j st=mE j st':=by rw[hs]
@[congr] theorem PH[Mode]{x x':D}{ds ds':List D}{gt gt':Bool}{g g':Option Bool}{K:KH}(h0:x=x')(h1:ds=ds')(h2:gt=gt')(h:g=g')(hs:st=st'):gX P x ds gt g st=gX P x' ds' gt' g' st':=by rw[h0,h1,h2,h,hs]
@[congr] theorem PO{h:LH}(he:env=env'):rZ env=rZ env':=by rw[he]
end
attribute [go_sem] bz.eq_1 bz.eq_2 bz.eq_3 bz.eq_4 bz.eq_5 bz.eq_6 bz.eq_7 bz.eq_8 bz.eq_9 bz.eq_10 bz.eq_11 bA.eq_1 bA.eq_2 bA.eq_3 aZ.eq_1 aZ.eq_2 aZ.eq_3 aZ.eq_4 aZ.eq_5 aZ.eq_6 aZ.eq_7
  aZ.eq_8 aZ.eq_9 aZ.eq_10 aZ.eq_11 aZ.eq_12 aZ.eq_13 aZ.eq_14 aZ.eq_15 aZ.eq_16 aZ.eq_17 aZ.eq_18 aZ.eq_19 aZ.eq_20 aZ.eq_21 aZ.eq_22 aZ.eq_23 aZ.eq_24 aZ.eq_25 aZ.eq_26 aZ.eq_27 aZ.eq_28
  fJ.eq_1 fJ.eq_2 eh.eq_1 eh.eq_2 bJ.eq_1 bJ.eq_2 bJ.eq_3 bJ.eq_4 bJ.eq_5 bJ.eq_6 bJ.eq_7 bJ.eq_8 bJ.eq_9 ji.eq_1 ji.eq_2 ni.eq_1 ni.eq_2 ku.eq_1 nC.eq_1 jv.eq_1 jv.eq_2 gC.eq_1
  gC.eq_2 gC.eq_3 jO.eq_1 jO.eq_2 jO.eq_3 D.pN.eq_1 D.pN.eq_2 D.bC.eq_1 D.bC.eq_2 D.bC.eq_3 D.bC.eq_4 D.bC.eq_5 qd.eq_1 qd.eq_2 D.lv.eq_1 D.lv.eq_2 D.lv.eq_3 D.lv.eq_4 D.lv.eq_5
  D.lv.eq_6 aw.eq_1 aw.eq_2 aw.eq_3 aw.eq_4 aw.eq_5 aw.eq_6 aw.eq_7 aw.eq_8 aw.eq_9 aw.eq_10 aw.eq_11 aw.eq_12 aw.eq_13 aw.eq_14 aw.eq_15 bR.eq_1 bR.eq_2 du.eq_1 du.eq_2 fP.eq_1
  fP.eq_2 fP.eq_3 iD.eq_1 iD.eq_2 j6.eq_1 j6.eq_2 ng.eq_1 D.nz.eq_1 D.nz.eq_2 H9 Jk lY.eq_1 aJ.eq_1 aJ.eq_2 aJ.eq_3 aJ.eq_4 aJ.eq_5 aJ.eq_6 aJ.eq_7 aJ.eq_8 aJ.eq_9 aJ.eq_10 aJ.eq_11 aJ.eq_12 aJ.eq_13 aJ.eq_14
  aJ.eq_15 aJ.eq_16 aJ.eq_17 bn.eq_1 bn.eq_2 bn.eq_3 bn.eq_4 bn.eq_5 bn.eq_6 bn.eq_7 bn.eq_8 bn.eq_9 bn.eq_10 bn.eq_11 bn.eq_12 bn.eq_13 bn.eq_14 bn.eq_15 bn.eq_16 bn.eq_17 bn.eq_18 bn.eq_19
  bn.eq_20 bn.eq_21 bn.eq_22 bn.eq_23 bn.eq_24 bn.eq_25 bn.eq_26 bn.eq_27 bn.eq_28 bn.eq_29 g1.eq_1 g1.eq_2 g2.eq_1 g2.eq_2 one.eq_1 St.rd.eq_1 St.rd.eq_2 St.rd.eq_3 St.rd.eq_4 St.rd.eq_5 St.cont.eq_1 St.put.eq_1
  St.push.eq_1 St.kill.eq_1 bB.eq_1 bB.eq_2 bB.eq_3 bB.eq_4 cw.eq_1 cw.eq_2 cw.eq_3 cw.eq_4 cw.eq_5 cw.eq_6 cw.eq_7 cw.eq_8 cw.eq_9 cw.eq_10 cw.eq_11 cw.eq_12 cw.eq_13 cw.eq_14 cw.eq_15 hZ.eq_1
  hZ.eq_2 nth.eq_1 nth.eq_2 nth.eq_3 cL.eq_1 cL.eq_2 cL.eq_3 dq.eq_1 dq.eq_2 D.kill.eq_1 D.kill.eq_2 D.kill.eq_3 D.kill.eq_4 D.kill.eq_5 D.kill.eq_6 D.kill.eq_7 D.kill.eq_8 D.kill.eq_9 D.kill.eq_10 D.core.eq_1
  D.core.eq_2 D.gate.eq_1 D.gate.eq_2 ph.eq_1 ph.eq_2 ph.eq_3 rb.eq_1 rb.eq_2 tq.eq_1 tq.eq_2 si.eq_1 si.eq_2 jQ.eq_1 jQ.eq_2 fi.eq_1 fi.eq_2 fi.eq_3 fi.eq_4 fi.eq_5 fi.eq_6 fi.eq_7
  fi.eq_8 fi.eq_9 fi.eq_10 fi.eq_11 fi.eq_12 fi.eq_13 iE.eq_1 iE.eq_2 iE.eq_3 iE.eq_4 iE.eq_5 iE.eq_6 iE.eq_7 iE.eq_8 nF.eq_1 nF.eq_2 nF.eq_3 jc.eq_1
  jc.eq_2 rW.eq_1 rW.eq_2 kR.eq_1 kR.eq_2 kR.eq_3 kV.eq_1 kV.eq_2 kV.eq_3 kW.eq_1 kW.eq_2 kW.eq_3 kJ.eq_1 kJ.eq_2 kJ.eq_3 rE.eq_1 rE.eq_2 rF.eq_1 rF.eq_2 sr.eq_1 sr.eq_2 rk.eq_1
  rk.eq_2 sL.eq_1 sL.eq_2 lr.eq_1 lr.eq_2 uq.eq_1 um.eq_1 vA.eq_1 pj.eq_1 pj.eq_2 pj.eq_3 kK.eq_1 kK.eq_2 kL.eq_1 kL.eq_2 setCells.eq_1 setCells.eq_2 D.cellsOf.eq_1 D.cellsOf.eq_2
  D.cellsOf.eq_3 D.cellsOf.eq_4 D.cellsOf.eq_5 D.cellsOf.eq_6 D.cellsOf.eq_7 D.cellsOf.eq_8 D.cellsOf.eq_9 dt.eq_1 dt.eq_2 D.ou.eq_1 D.ou.eq_2 aW.eq_1 aW.eq_2 aW.eq_3 aW.eq_4 aW.eq_5 aW.eq_6 aW.eq_7 aW.eq_8 aW.eq_9 aW.eq_10
  aW.eq_11 aW.eq_12 aW.eq_13 aW.eq_14 fT.eq_1 fT.eq_2 cW.eq_1 cW.eq_2 gF.eq_1 gF.eq_2 bF.eq_1 bF.eq_2 gZ.eq_1 gZ.eq_2 ix.eq_1 ix.eq_2 ix.eq_3 wx.eq_1 wx.eq_2 gx.eq_1 gx.eq_2
  fin.eq_1 ib.eq_1 ib.eq_2 gd.eq_1 b7.eq_1 b7.eq_2 isRow.eq_1 isRow.eq_2 mC.eq_1 mC.eq_2 mC.eq_3 D.vD.eq_1 D.vD.eq_2 D.oa.eq_1 D.oa.eq_2 D.nT.eq_1 D.nT.eq_2 D.fH.eq_1 D.fH.eq_2 D.fH.eq_3
  D.fH.eq_4 D.fH.eq_5 D.fH.eq_6 D.fH.eq_7 D.fH.eq_8 D.fH.eq_9 D.fH.eq_10 D.fH.eq_11 mF.eq_1 mF.eq_2 D.vC.eq_1 lH.eq_1 lH.eq_2 qY.eq_1 D.row?.eq_1 D.row?.eq_2 D.gk.eq_1 D.gk.eq_2 D.gk.eq_3
  D.o?.eq_1 D.o?.eq_2 D.fL.eq_1 D.fL.eq_2 D.fL.eq_3 D.fL.eq_4 D.fL.eq_5 D.fL.eq_6 D.fL.eq_7 D.fL.eq_8 D.fL.eq_9 D.fL.eq_10 mS.eq_1 mS.eq_2 D.pq.eq_1 D.pq.eq_2 lI.eq_1 lI.eq_2 oE.eq_1 oE.eq_2 mr.eq_1 mr.eq_2 mr.eq_3 D.gB.eq_1 D.gB.eq_2
  D.gB.eq_3 D.gB.eq_4 D.bV.eq_1 D.bV.eq_2 D.dT.eq_1 D.dT.eq_2 D.dT.eq_3 D.dT.eq_4 D.dT.eq_5 D.dT.eq_6 D.dT.eq_7 D.dT.eq_8 D.oq.eq_1 D.oq.eq_2 D.int?.eq_1 D.int?.eq_2 D.lJ.eq_1 D.lJ.eq_2 D.bool?.eq_1 D.bool?.eq_2 D.oX.eq_1 D.oX.eq_2
  D.oX.eq_3 D.pc.eq_1 D.pc.eq_2 D.pc.eq_3 D.pc.eq_4 D.pc.eq_5 D.pc.eq_6 D.pc.eq_7 D.pc.eq_8 D.pc.eq_9 oH.eq_1 oH.eq_2 D.ey.eq_1 D.ey.eq_2 D.ey.eq_3 D.ey.eq_4 D.ey.eq_5 D.ey.eq_6 D.ey.eq_7
  D.ey.eq_8 D.ey.eq_9 D.ey.eq_10 D.ey.eq_11 D.ey.eq_12 D.ey.eq_13 mI.eq_1 mI.eq_2 rM.eq_1 rM.eq_2 rC.eq_1 rC.eq_2 kZ.eq_1 kZ.eq_2 kZ.eq_3 kZ.eq_4 rA.eq_1 rA.eq_2 fR.eq_1 fR.eq_2
  fR.eq_3 fR.eq_4 fR.eq_5 xz.eq_1 tw.eq_1 lL.eq_1 lL.eq_2 iL.eq_1 iL.eq_2 kD.eq_1 kD.eq_2 bump.eq_1 bump.eq_2 bump.eq_3 looks.eq_1 looks.eq_2 pJ.eq_1 pJ.eq_2 my.eq_1 pr.eq_1 pr.eq_2
  D.refs.eq_1 D.refs.eq_2 D.refs.eq_3 D.refs.eq_4 D.refs.eq_5 D.refs.eq_6 D.refs.eq_7 D.refs.eq_8 D.refs.eq_9 D.refs.eq_10 bD.eq_1 bD.eq_2 lD.eq_1 lD.eq_2 xc.eq_1 xc.eq_2 kq.eq_1 kq.eq_2 kq.eq_3
  apart.eq_1 apart.eq_2 apart.eq_3 bO.eq_1 bO.eq_2 bO.eq_3 cz.eq_1 iy.eq_1 iy.eq_2 aP.eq_1 aP.eq_2 aP.eq_3 bt.eq_1 bt.eq_2 bt.eq_3 bb.eq_1 bb.eq_2 bb.eq_3 fE.eq_1 fE.eq_2 fE.eq_3
  ia.eq_1 ia.eq_2 ia.eq_3 cX.eq_1 D.hole.eq_1 D.uS.eq_1 nN.eq_1 nN.eq_2 er.eq_1 er.eq_2 er.eq_3 ej.eq_1 ej.eq_2 ej.eq_3 D.bM.eq_1 D.bM.eq_2 D.bM.eq_3 D.bM.eq_4 D.gG.eq_1 D.gG.eq_2 D.cells.eq_1
  D.cells.eq_2 lk.eq_1 D.isObj.eq_1 D.isObj.eq_2 D.isObj.eq_3 D.isObj.eq_4 D.fU.eq_1 D.fU.eq_2 D.a8.eq_1 D.at.eq_1 D.at.eq_2 D.aS.eq_1 D.db.eq_1 D.db.eq_2 D.db.eq_3 D.db.eq_4 D.db.eq_5 D.db.eq_6 D.db.eq_7
  D.un.eq_1 D.un.eq_2 bc.eq_1 bc.eq_2 D.aR.eq_1 D.aR.eq_2 D.aR.eq_3 D.aR.eq_4 D.aR.eq_5 D.aR.eq_6 D.has.eq_1 D.has.eq_2 D.iS.eq_1 D.dQ.eq_1 D.dQ.eq_2 D.dQ.eq_3 D.dQ.eq_4 D.dQ.eq_5
  D.dQ.eq_6 D.dQ.eq_7 D.setAt.eq_1 D.setAt.eq_2 D.eS.eq_1 D.eS.eq_2 D.cK.eq_1 D.cK.eq_2 D.cK.eq_3 D.cK.eq_4 D.cK.eq_5 D.cK.eq_6 D.cK.eq_7 dC.eq_1 dC.eq_2 dB.eq_1
  dB.eq_2 jV.eq_1 jV.eq_2 ei.eq_1 ei.eq_2 ei.eq_3 ei.eq_4 de.eq_1 de.eq_2 de.eq_3 D.fY.eq_1 D.fY.eq_2 D.fY.eq_3 iw.eq_1 D.isAgg.eq_1 D.isAgg.eq_2 D.bX.eq_1 D.bX.eq_2 D.bX.eq_3
  D.bX.eq_4 D.dY.eq_1 D.dY.eq_2 D.fC.eq_1 D.fC.eq_2 D.fC.eq_3 D.cut.eq_1 D.cut.eq_2 D.cut.eq_3 D.cut.eq_4 D.bp.eq_1 D.bp.eq_2 D.bp.eq_3 D.bp.eq_4 D.bp.eq_5 D.bp.eq_6 D.bp.eq_7 dA.eq_1 dA.eq_2
  gX.eq_1 gX.eq_2 gX.eq_3 jB.eq_1 jB.eq_2 iM.eq_1 iM.eq_2 eE.eq_1 eE.eq_2 eE.eq_3 nG.eq_1 nE.eq_1 pA.eq_1 pA.eq_2 iB.eq_1 iB.eq_2 ug.eq_1 mB.eq_1 mB.eq_2 mB.eq_3
  mE.eq_1 D.pO.eq_1 D.pO.eq_2 oe.eq_1 oe.eq_2 oe.eq_3 bn.eq_30 bn.eq_31 pV.eq_1 pV.eq_2 vz.eq_1 w8.eq_1 four.eq_1 four.eq_2 four.eq_3 four.eq_4 four.eq_5 w9.eq_1 w9.eq_2 uF.eq_1 jK.eq_1 jK.eq_2 jK.eq_3 jK.eq_4 eu.eq_1 eu.eq_2
  D.il.eq_1 D.il.eq_2 D.n9.eq_1 D.n9.eq_2 D.n9.eq_3 mapOf.eq_1 mapOf.eq_2 D.ig.eq_1 D.ig.eq_2 D.ig.eq_3 D.ig.eq_4 gL.eq_1 gL.eq_2 se.eq_1 rV.eq_1 b6.eq_1 b6.eq_2 D.jy.eq_1 D.jy.eq_2 D.jy.eq_3
  D.jy.eq_4 nL.eq_1 nL.eq_2 dL.eq_1 dL.eq_2 D.ai.eq_1 D.ai.eq_2 D.ai.eq_3 D.ai.eq_4 D.ai.eq_5 D.ai.eq_6 D.ai.eq_7 D.ai.eq_8 D.ai.eq_9 D.ai.eq_10 cH.eq_1 cH.eq_2 kX.eq_1 kX.eq_2 kX.eq_3 kr.eq_1
  kr.eq_2 kr.eq_3 tl.eq_1 tl.eq_2 tj.eq_1 tj.eq_2 mO.eq_1 mO.eq_2 mO.eq_3 qG.eq_1 qG.eq_2 fZ.eq_1 fZ.eq_2 lf.eq_1 lf.eq_2 lf.eq_3 D.tight.eq_1 D.tight.eq_2 D.tight.eq_3 D.tight.eq_4 D.tight.eq_5
  D.tight.eq_6 D.tight.eq_7 D.tight.eq_8 D.tight.eq_9 D.tight.eq_10 D.tight.eq_11 D.tight.eq_12 jo.eq_1 jo.eq_2 D.oJ.eq_1 D.oJ.eq_2 oK.eq_1 oK.eq_2 D.jq.eq_1 D.jq.eq_2 D.jq.eq_3 lM.eq_1
  lM.eq_2
 BI BG Option.elim_none Option.elim_some IV Ic Ie Ij Ip IY IG Io Ix BK BH Ir ID Ia sa Ib Im It Iu IS IE IL Iy IM IN IX Ih IH H8 Ik Iq Iz Is IU Iv Iw IB IF IA Il IP BJ IK IQ II IJ Ii
 Of Oe Oc Oj Og Od Ol Oh Oi MF ME MC MI MG MD MJ MH
 Option.bind_some Option.map_some Option.bind_none Option.map_none Option.some.injEq if_true if_false true_and and_true Bool.true_and Bool.and_true Bool.and_self Bool.false_and Bool.and_false Bool.not_true Bool.not_false List.drop_zero List.drop_succ_cons List.take_succ_cons List.take_zero List.length_cons List.length_nil List.replicate_succ List.replicate_zero List.map_cons List.map_nil
 List.getD_cons_zero List.getD_cons_succ List.set_cons_zero List.set_cons_succ List.cons_append List.nil_append List.append_nil List.isEmpty_nil List.isEmpty_cons
 reduceCtorEq decide_true decide_false implies_true true_implies false_implies and_self ne_eq not_false_eq_true not_true_eq_false beq_iff_eq true_or or_true false_or or_false eq_self Bool.false_eq_true decide_eq_true_eq decide_eq_false_iff_not Nat.zero_add Nat.add_zero imp_self
end Go.D3
namespace Go.D3
open Go
def p9(k:IntKind)(n:Int):Bool:=decide (k.min<=n)&&decide (n<=k.max)
theorem qc{k:IntKind}{n:Int}(h:p9 k n=true):k.has n:=by
 simp[p9] at h;exact h
def cC(P:Program)(t:TypeId)(n:Nat):Bool :=
 match P.info? t with
 | some i=>decide (i.size=n)
 | none=>false
def l7(P:Program)(t:TypeId)(n:Nat):Bool :=
 match P.info? t with
 | some i=>decide (i.bytes=n)
 | none=>false
def ko(P:Program)(t:TypeId):Bool:=match P.underlying t with
 | some (.struct _) | some (.array _ _)=>true
 | _=>false
def iN(P:Program)(t:TypeId):Bool:=match P.underlying t with
 | some (.struct _) | some (.array _ _) | none=>false
 | _=>true
def gb(P:Program)(t:TypeId):Option TypeId:=match P.underlying t with
 | some (.slice e)=>some e
 | _=>none
def gm(P:Program)(t:TypeId)(f:Nat):Option (Nat×TypeId):=match P.underlying t with
 | some (.struct fs)=>(fs[f]?).map fun x=>(x.offset,x.type)
 | _=>none
theorem mi{n:Nat}(h:n<=maxLen):IntKind.i64.has (n:Int):=by
 simp only[maxLen] at h;constructor
 ·simp[IntKind.min,IntKind.signed,IntKind.bits]<;>omega
 ·simp[IntKind.max,IntKind.signed,IntKind.bits]<;>omega
theorem tH(k:IntKind)(n:Int):k.has (k.wrap n):=by
 have hs:∀(bits:Nat),True:=fun _=>trivial
 cases k<;>simp only[IntKind.has,IntKind.min,IntKind.max,IntKind.wrap,IntKind.signed,IntKind.bits]<;>simp<;>(first | omega | (split<;>omega))
def Yd(P:Program)(o:Oper)(a:Act)(w:World)(v:Value):Prop:=(execOp a.eval o).run P w=.ok (.value v) w
section
variable{P:Program}{o:Oper}{w:World}{a:Act}
theorem qL{x:Operand}(ho:o.op=.move x\/o.op=.assign x):Yd P o a w (a.eval x):=by
 rcases ho with ho | ho<;>simp[Yd,execOp,ho]
theorem HC{op:BinOp}{k:IntKind}{m n:Int}(hm:k.has m){side:Prop}{d:D}(hb:fi op k m n=some (side,d))(hs:side):∃v,Rd w (fun _=>False) v d /\
  (∀{t u:TypeId}{x y:Operand},o.op=.binOp op t x y u->a.eval x=.int k m->a.eval y=.int k n->Yd P o a w v):=by
 have hg:∀t x y w,(eqGuard op t x y (.int k m) (.int k n)).run P w=.ok () w:=by
  intro t x y w;unfold eqGuard;cases op<;>rfl
 have hq:∀(d:Int),(¬n=0)->(Op.intDiv .quo k m n).run P w=.ok (.int k (k.wrap (m.tdiv n))) w/\(Op.intDiv .rem k m n).run P w=.ok (.int k (m.tmod n)) w:=by
  intro _ h0;constructor<;>simp[Op.intDiv,h0]
 cases op<;>simp only[fi,Option.some.injEq,Prod.mk.injEq,reduceCtorEq] at hb
 case quo =>
  obtain⟨h1,rfl⟩:=hb;rw[<-h1] at hs;refine⟨.int k (k.wrap (m.tdiv n)),Rd.int (tH _ _),fun ho hx hy=>?_⟩;simp[Yd,execOp,ho,hx,hy,hg,binOp,(hq 0 hs).1]
 case rem =>
  obtain⟨h1,rfl⟩:=hb;rw[<-h1] at hs;refine⟨.int k (m.tmod n),Rd.int ?_,fun ho hx hy=>by simp[Yd,execOp,ho,hx,hy,hg,binOp,(hq 0 hs).2]⟩
  have h3:(m.tmod n).natAbs<=m.natAbs:=by
   rw[Int.natAbs_tmod];exact Nat.mod_le _ _
  obtain⟨h4,h5⟩:=hm;have h8:k.min<=0/\0<=k.max:=by cases k<;>simp[IntKind.min,IntKind.max,IntKind.signed,IntKind.bits]
  rcases Int.le_total 0 m with h6 | h6
  ·have h7:=Int.tmod_nonneg n h6
   constructor<;>omega
  ·have h7:m.tmod n<=0:=by
    have:=Int.tmod_nonneg n (show 0<=-m by omega);rw[Int.neg_tmod] at this;omega
   constructor<;>omega
 case and =>
  obtain⟨-,rfl⟩:=hb;refine⟨_,Rd.int (tH _ _),fun ho hx hy=>?_⟩;simp only[Yd,execOp,ho,hx,hy,binOp,ne_eq,not_true_eq_false,if_false];rfl
 all_goals
  obtain⟨-,rfl⟩:=hb
  first
  | exact⟨_,Rd.int (tH _ _),fun ho hx hy=>by simp[Yd,execOp,ho,hx,hy,hg,binOp,Op.intArith]⟩
  | exact⟨_,Rd.bool,fun ho hx hy=>by simp[Yd,execOp,ho,hx,hy,hg,binOp,Op.intCmp]⟩
theorem N7{k:IntKind}{m:Int}(hm:k.has m)(n:Nat):k.has (m.fdiv (2 ^ n)):=by
 have hp:(0:Int)<2 ^ n:=Int.pow_pos (by decide);rw[Int.fdiv_eq_ediv_of_nonneg _ (Int.le_of_lt hp)];obtain⟨h1,h2⟩:=hm;have h0:k.min<=0/\0<=k.max:=by cases k<;>simp[IntKind.min,IntKind.max,IntKind.signed,IntKind.bits]
 constructor
 ·refine(Int.le_ediv_iff_mul_le hp).2 ?_
  have:=Int.mul_le_mul_of_nonpos_left h0.1 (show(1:Int)<=2 ^ n by omega);omega
 ·rcases Int.le_total 0 m with h | h
  ·have:=Int.ediv_le_self (2 ^ n) h
   omega
  ·have:=(Int.ediv_lt_iff_lt_mul hp (a:=m) (b:=1)).2 (by omega)
   omega
theorem Pj{k k':IntKind}{m n:Int}{t u:TypeId}{x y:Operand}(ho:o.op=.binOp .shr t x y u)(hx:a.eval x=.int k m)(hy:a.eval y=.int k' n)(h0 : 0<=n)(h1:n<=k.bits):Yd P o a w (.int k (m.fdiv (2 ^ n.toNat))):=by
 have h2:¬n<0:=by omega
 have h3:min n.toNat k.bits=n.toNat:=by omega
 simp[Yd,execOp,ho,hx,hy,eqGuard,binOp,Op.shift,h2,h3]
theorem Ot{op:BinOp}{m n:List UInt8}{side:Prop}{d:D}(hb:iE op m n=some (side,d))(hs:side):∃v,Rd w (fun _=>False) v d /\
  (∀{t u:TypeId}{x y:Operand},o.op=.binOp op t x y u->a.eval x=.string ⟨m.toArray⟩->a.eval y=.string ⟨n.toArray⟩->Yd P o a w v):=by
 have hg:∀t x y w,(eqGuard op t x y (.string ⟨m.toArray⟩) (.string ⟨n.toArray⟩)).run P w=.ok () w:=by
  intro t x y w;unfold eqGuard;cases op<;>rfl
 have hl:∀l:List UInt8,(⟨l.toArray⟩:ByteArray).toList=l:=fun l=>by rw[ByteArray.toList_eq]
 cases op<;>simp only[iE,Option.some.injEq,Prod.mk.injEq,reduceCtorEq] at hb
 case add =>
  obtain⟨h1,rfl⟩:=hb;rw[<-h1] at hs;refine⟨.string ⟨(m++n).toArray⟩,Rd.str (by simpa using hs),fun ho hx hy=>?_⟩
  have h2:(m.length:Int)+n.length<=9223372036854775807:=by
   simp only[maxLen] at hs;omega
  have h3:(⟨m.toArray⟩++⟨n.toArray⟩:ByteArray)=⟨(m++n).toArray⟩:=by
   apply ByteArray.ext;simp
  have h4:(⟨m.toArray⟩:ByteArray).size=m.length:=rfl;have h5:(⟨n.toArray⟩:ByteArray).size=n.length:=rfl;simp[Yd,execOp,ho,hx,hy,hg,binOp,Op.stringOp,h2,h3,h4,h5]
 all_goals
  obtain⟨-,rfl⟩:=hb;exact⟨_,Rd.bool,fun ho hx hy=>by simp[Yd,execOp,ho,hx,hy,hg,binOp,Op.stringOp,hl]⟩
theorem Gg{op:BinOp}{m n:Bool}{side:Prop}{d:D}(hb:nF op m n=some (side,d)):∃v,Rd w (fun _=>False) v d /\
  (∀{t u:TypeId}{x y:Operand},o.op=.binOp op t x y u->a.eval x=.bool m->a.eval y=.bool n->P.underlying t=some .bool->Yd P o a w v):=by
 have hg:∀t x y w,(eqGuard op t x y (.bool m) (.bool n)).run P w=.ok () w:=by
  intro t x y w;unfold eqGuard;cases op<;>rfl
 cases op<;>simp only[nF,Option.some.injEq,Prod.mk.injEq,reduceCtorEq] at hb
 all_goals
  obtain⟨-,rfl⟩:=hb;exact⟨_,Rd.bool,fun ho hx hy ht=>by simp[Yd,execOp,ho,hx,hy,hg,binOp,Op.equal,Op.maxDepth,run_equalIn_bool' (P:=P) _ _ _ _ _ ht]⟩
theorem zb{c x y:Operand}(ho:o.op=.pick c x y){cb p q:Bool}(hc:a.eval c=.bool cb)(hx:cb=true->a.eval x=.bool p)(hy:cb=false->a.eval y=.bool q) :
  Yd P o a w (.bool (lr cb p q)):=by
 cases cb
 ·simp[Yd,execOp,ho,hc,hy,asBool,lr]
 ·simp[Yd,execOp,ho,hc,hx,asBool,lr]
theorem FA{x:Operand}{t:TypeId}(ho:o.op=.unOp .not t x){b:Bool}(hx:a.eval x=.bool b):Yd P o a w (.bool (!b)):=by
 simp[Yd,execOp,ho,hx,Op.unary]
theorem oQ{k:IntKind}{n:Int}(h:k.has n):k.wrap n=n:=by
 obtain⟨h1,h2⟩:=h;cases k<;>simp[IntKind.min,IntKind.max,IntKind.wrap,IntKind.signed,IntKind.bits] at *<;>(first | omega | (split<;>omega))
theorem O6{s d:TypeId}{x:Operand}(ho:o.op=.convert s d x){k0 k1 k:IntKind}(h1:P.underlying s=some (.int k1))(h2:P.underlying d=some (.int k)){n:Int}(hx:a.eval x=.int k0 n)(hn:k0.has n) :
  Yd P o a w (.int k (if k0=k then n else k.wrap n))/\k.has (if k0=k then n else k.wrap n):=by
 have:Yd P o a w (.int k (k.wrap n)):=by simp[Yd,execOp,ho,hx,convert,run_underlying h1,run_underlying h2,Conv.intToInt]
 by_cases hk:k0=k
 ·subst hk;simp only[if_true];rw[oQ hn] at this;exact⟨this,hn⟩
 ·simp only[hk,if_false];exact⟨this,tH _ _⟩
def sf:Bool->Builtin
 | true=>.max
 | false=>.min
theorem Ph{mx:Bool}{k:IntKind}{m n:Int}{ts:Array TypeId}{x y:Operand}(ho:o.op=.call { callee:=.builtin (sf mx),args:=#[x,y],argTypes:=ts })(hx:a.eval x=.int k m)(hy:a.eval y=.int k n):Yd P o a w (.int k (jQ mx m n)):=by
 cases mx
 ·simp only[sf] at ho
  have e:(if n<m then n else m)=min m n:=by split<;>omega
  simp[Yd,execOp,ho,hx,hy,resolve,invoke,builtin,Builtin.min_,Builtin.min2,jQ,e]
 ·simp only[sf] at ho
  have e:(if m<n then n else m)=max m n:=by split<;>omega
  simp[Yd,execOp,ho,hx,hy,resolve,invoke,builtin,Builtin.max_,Builtin.max2,jQ,e]
theorem Jg{mx:Bool}{k:IntKind}{m n:Int}(hm:k.has m)(hn:k.has n):k.has (jQ mx m n):=by
 obtain⟨h1,h2⟩:=hm;obtain⟨h3,h4⟩:=hn;cases mx<;>exact⟨by simp only[jQ];omega,by simp only[jQ];omega⟩
theorem Pe{t e:TypeId}{x:Operand}(ho:o.op=.call { callee:=.builtin .len,args:=#[x],argTypes:=#[t] })(ht:P.underlying t=some (.slice e)){p:Option Addr}{n c:Nat}
  (hx:a.eval x=.slice p n c):Yd P o a w (.int .i64 n):=by
 simp[Yd,execOp,ho,hx,resolve,invoke,builtin,Builtin.len_,run_underlying ht,goInt]
theorem Pf{t:TypeId}{x:Operand}(ho:o.op=.call { callee:=.builtin .len,args:=#[x],argTypes:=#[t] })(ht:P.underlying t=some .string){l:List UInt8}
  (hx:a.eval x=.string ⟨l.toArray⟩):Yd P o a w (.int .i64 l.length):=by
 simp[Yd,execOp,ho,hx,resolve,invoke,builtin,Builtin.len_,run_underlying ht,goInt];rfl
theorem Fx{t e:TypeId}{x i:Operand}(ho:o.op=.indexAddr t x i)(ht:P.underlying t=some (.slice e)){sz:Nat}{inf:TypeInfo}(hi:P.info? e=some inf)(hsz:inf.size=sz)
  {b off n c:Nat} (hx:a.eval x=.slice (some ⟨b,off,none⟩) n c) {k:IntKind} {m:Int} (hm:a.eval i=.int k m) (h0 : 0<=m) (h1:m<n):Yd P o a w (.pointer (some ⟨b,off+m.toNat*sz,none⟩)):=by
 have hadd:(⟨b,off,none⟩:Addr).add (m.toNat*sz)=⟨b,off+m.toNat*sz,none⟩:=by
  unfold Addr.add;split<;>simp_all
 simp[Yd,execOp,ho,hx,hm,Instr.indexAt,asIntOf,run_underlying ht,h0,h1,sizeOf,typeInfo,hi,hsz,hadd]
theorem vh{t:TypeId}(h:iN P t=true):(isAgg t).run P w=.ok false w:=by
 unfold iN at h;cases hu:P.underlying t with
 | none=>simp[hu] at h
 | some d=>cases d<;>simp[hu] at h<;>simp[isAgg,run_underlying hu]
theorem vg{t:TypeId}(h:ko P t=true):(isAgg t).run P w=.ok true w:=by
 unfold ko at h;cases hu:P.underlying t with
 | none=>simp[hu] at h
 | some d=>cases d<;>simp[hu] at h<;>simp[isAgg,run_underlying hu]
theorem tu{t:TypeId}{n:Nat}(h:cC P t n=true):(sizeOf t).run P w=.ok n w:=by
 unfold cC at h;cases hi:P.info? t with
 | none=>simp[hi] at h
 | some i=>simp[hi] at h;simp[sizeOf,typeInfo,hi,h]
theorem Pc{t:TypeId}{x:Operand}(ho:o.op=.load t x)(ht:iN P t=true){b off:Nat}(hx:a.eval x=.pointer (some ⟨b,off,none⟩)){v:Value}(hc:w.cell? ⟨b,off,none⟩=some v):Yd P o a w v:=by
 simp[Yd,execOp,ho,hx,Instr.loadAt,Instr.sureAddr,loadVar,vh ht,hc]
theorem Pd{t:TypeId}{x:Operand}{n:Nat}(ho:o.op=.load t x)(ht:ko P t=true)(hn:cC P t n=true){b off:Nat}(hx:a.eval x=.pointer (some ⟨b,off,none⟩)){cs:List Value}
  (hl:cs.length=n) (hc:∀j v,cs[j]?=some v->w.cell? ⟨b,off+j,none⟩=some v):Yd P o a w (.agg cs.toArray):=by
 have h:=run_loadCells_list (P:=P) w ⟨b,off,none⟩ cs (fun j v hj=>by
  have hadd:(⟨b,off,none⟩:Addr).add j=⟨b,off+j,none⟩:=by unfold Addr.add;split<;>simp_all
  rw[hadd];exact hc j v hj)
 simp[Yd,execOp,ho,hx,Instr.loadAt,Instr.sureAddr,loadVar,vg ht,tu hn,<-hl,h]
theorem tI{t:TypeId}{x:Operand}{f:Nat}(ho:o.op=.fieldAddr t x f){off:Nat}{ft:TypeId}(hf:gm P t f=some (off,ft))(hz:cC P ft 0=false)(hs:(P.info? ft).isSome=true){b k:Nat}
  (hx:a.eval x=.pointer (some ⟨b,k,none⟩)):Yd P o a w (.pointer (some ⟨b,k+off,none⟩)):=by
 unfold gm at hf;cases hu:P.underlying t with
 | none=>simp[hu] at hf
 | some d =>
  cases d<;>simp[hu] at hf;obtain⟨fl,hfl,h1,h2⟩:=hf;subst h2;subst h1;cases hi:P.info? fl.type with
  | none=>simp[hi] at hs
  | some i =>
   have hne:¬i.size=0:=by simpa[cC,hi] using hz
   have hadd:(⟨b,k,none⟩:Addr).add fl.offset=⟨b,k+fl.offset,none⟩:=by unfold Addr.add;split<;>simp_all
   simp[Yd,execOp,ho,hx,Instr.fieldAt,run_underlying hu,hfl,Instr.sureAddr,fieldPlace,sizeOf,typeInfo,hi,hne,hadd]
theorem wy{t:TypeId}(ht:iN P t=true){cs:Array Value}{off:Nat}(h:off<cs.size):(part t cs off).run P w=.ok (cs.getD off undef) w:=by
 simp[part,vh ht,h]
theorem LG{t:TypeId}{n:Nat}(ht:ko P t=true)(hn:cC P t n=true){cs:Array Value}{off:Nat}:(part t cs off).run P w=.ok (.agg (cs.extract off (off+n))) w:=by
 simp[part,vg ht,tu hn]
theorem O9{t:TypeId}{x:Operand}{f:Nat}(ho:o.op=.field t x f){off:Nat}{ft:TypeId}(hf:gm P t f=some (off,ft))(hc:iN P ft=true){cs:Array Value}
  (hx:a.eval x=.agg cs) (hoff:off<cs.size):Yd P o a w (cs.getD off undef):=by
 unfold gm at hf;cases hu:P.underlying t with
 | none=>simp[hu] at hf
 | some d =>
  cases d<;>simp[hu] at hf;obtain⟨fl,hfl,h1,h2⟩:=hf;subst h2;subst h1;simp[Yd,execOp,ho,hx,Instr.field,run_underlying hu,hfl,asAgg,wy hc hoff]
theorem Pa{t:TypeId}{x:Operand}{f:Nat}(ho:o.op=.field t x f){off n:Nat}{ft:TypeId}(hf:gm P t f=some (off,ft))(hc:ko P ft=true)(hn:cC P ft n=true){cs:Array Value}
  (hx:a.eval x=.agg cs):Yd P o a w (.agg (cs.extract off (off+n))):=by
 unfold gm at hf;cases hu:P.underlying t with
 | none=>simp[hu] at hf
 | some d =>
  cases d<;>simp[hu] at hf;obtain⟨fl,hfl,h1,h2⟩:=hf;subst h2;subst h1;simp[Yd,execOp,ho,hx,Instr.field,run_underlying hu,hfl,asAgg,LG hc hn]
theorem Pb{t:TypeId}{x i:Operand}(ho:o.op=.index t x i)(ht:P.underlying t=some .string){l:List UInt8}(hx:a.eval x=.string ⟨l.toArray⟩){k:IntKind}{m:Int}(hm:a.eval i=.int k m)
  (h0 : 0<=m) (h1:m<l.length):Yd P o a w (.int .u8 (l.getD m.toNat 0).toNat)/\IntKind.u8.has ((l.getD m.toNat 0).toNat:Int):=by
 have hlt:m.toNat<l.length:=by omega
 have hs:(⟨l.toArray⟩:ByteArray)[m.toNat]?=some (l.getD m.toNat 0):=by
  show(if h:m.toNat<(⟨l.toArray⟩:ByteArray).size then some _ else none)=_;rw[dif_pos (show m.toNat<(⟨l.toArray⟩:ByteArray).size from hlt)];simp[List.getD,hlt];rfl
 refine⟨?_,?_⟩
 ·simp[Yd,execOp,ho,hx,hm,Instr.index,asIntOf,run_underlying ht,h0,hs]
 ·generalize l.getD m.toNat 0=c
  have:=c.toNat_lt;constructor<;>simp[IntKind.min,IntKind.max,IntKind.signed,IntKind.bits]<;>omega
theorem O8{x:Operand}{i:Nat}(ho:o.op=.extract x i){cs:Array Value}(hx:a.eval x=.tuple cs)(hi:i<cs.size):Yd P o a w (cs.getD i undef):=by
 simp[Yd,execOp,ho,hx,Instr.extract,hi]
theorem tJ{x:Operand}(ho:o.op=.nilCheck x){p:Addr}(hx:a.eval x=.pointer (some p)):Yd P o a w (.pointer (some p)):=by
 simp[Yd,execOp,ho,hx]
theorem Fz{x:Operand}(ho:o.op=.nilCheck x){f:FuncId}{l r:Array Value}(hx:a.eval x=.func (.func f) l r):Yd P o a w (.func (.func f) l r):=by
 simp[Yd,execOp,ho,hx]
end
end Go.D3
namespace Go.D3
open Go
section
variable{w:World}{ct:Nat->D}{vl:Nat->Value}{A:Nat->Prop}
def Reach(w:World)(ct:Nat->D)(vl:Nat->Value)(k:Nat)(p:Path)(v:Value)(y:D):Prop :=
 ∀q,y.has q->(ct k).aR (p++q)/\aE w (vl k) (ct k) (p++q)=aE w v y q/\(q≠[]->ay w (vl k) (ct k) (p++q)=ay w v y q)
theorem Reach.aS{k:Nat}{p:Path}{v:Value}{y:D}(h:Reach w ct vl k p v y){i off:Nat}(hk:y.iS i off){u:Value}(hu:bU w v y i off=some u):Reach w ct vl k (p++[(i,off)]) u (y.aS i off):=by
 intro q hq;obtain⟨h1,h2,h3⟩:=h ((i,off)::q) ⟨hk,hq⟩;rw[List.append_assoc,List.singleton_append];refine⟨h1,?_,fun hne=>?_⟩
 ·rw[h2];simp only[aE,hu,Option.bind_some]
 ·rw[h3 (by simp)]
  cases q with
  | nil=>exact absurd rfl hne
  | cons t q=>simp only[ay,hu,Option.bind_some]
theorem Reach.root{k:Nat}{x:D}{F:Nat->Prop}(hc:ct k=.o x)(h:af w A (vl k) x F):Reach w ct vl k [] (vl k) x:=by
 intro q hq;rw[List.nil_append,hc];exact⟨hq,(fN h w q).1,fun _=>(fN h w q).2⟩
theorem Reach.part{R:Value->D->Prop}{k:Nat}{F:Nat->Prop}(h:az w A R (vl k) F (ct k)){p:Path}(hp:(ct k).aR p)(hne:p≠[]){u:Value}(hu:aE w (vl k) (ct k) p=some u){F':Nat->Prop}
  (hlv:bc (ct k) p=true->(ct k).at p=.o ((ct k).a8 p)) (hown:af w A u ((ct k).a8 p) F'):Reach w ct vl k p u ((ct k).a8 p):=by
 intro q hq
 have hval:∀q,aE w u ((ct k).at p) q=aE w u ((ct k).a8 p) q/\ay w u ((ct k).at p) q=ay w u ((ct k).a8 p) q:=by
  intro q;by_cases hl:(ct k).at p=.o ((ct k).a8 p)
  ·rw[hl];exact fN hown w q
  ·have:(ct k).at p=(ct k).a8 p:=by
    unfold D.a8 at hl|-
    generalize(ct k).at p=z at hl|-
    cases z<;>first | rfl | (exfalso;exact hl rfl)
   rw[this];exact⟨rfl,rfl⟩
 refine⟨?_,?_,fun hq'=>?_⟩
 ·revert hp hlv hq
  unfold D.a8;intro hp hlv hq;cases hc:ct k<;>rw[hc] at hp hlv hq<;>try exact hp.elim
  case row z l=>exact absurd hp hne
  case o x =>
   rw[hc] at h;rw[D.ky h hne] at hq
   have hx:(x.at p).un=x.at p:=by
    obtain⟨_,_,_,g1,g2,_⟩:=af.splitAt p h hp;exact g2.un.1
   rw[hx] at hq;exact(kP x p q).2 ⟨hp,hq⟩
  case box l =>
   cases p with
   | nil=>exact absurd rfl hne
   | cons s p =>
    obtain⟨i,off⟩:=s;obtain⟨rfl,ho,hp⟩:=hp;have hk:D.aS (.box l) 0 off=l.getD off .dead:=rfl;cases p with
    | nil =>
     cases q with
     | nil=>exact⟨rfl,ho,trivial⟩
     | cons t q =>
      have hat:=hlv rfl;have e:(D.box l).at [(0,off)]=l.getD off .dead:=rfl;rw[e] at hat hq;refine⟨rfl,ho,?_⟩;rw[hat];exact hq
    | cons t p =>
     simp only at hp;split at hp
     ·rename_i y hy
      rw[hc] at h;obtain⟨_,b,cs,e,Fs,h1,h2,h3,h4,h5,h6,h7⟩:=h
      have hget:l[off]?=some (.o y):=by
       rw[List.getD_eq_getElem?_getD,List.getElem?_eq_getElem ho] at hy;rw[List.getElem?_eq_getElem ho];simpa using hy
      have hown':=h4 off _ hget;simp only[bG] at hown';have e:(D.box l).at ((0,off)::t::p)=y.at (t::p):=by rw[D.at,hk,hy,D.ky hown' (by simp)]
      rw[e] at hq
      have hx:(y.at (t::p)).un=y.at (t::p):=by
       obtain⟨_,_,_,g1,g2,_⟩:=af.splitAt (t::p) hown' hp;exact g2.un.1
      rw[hx] at hq;refine⟨rfl,ho,?_⟩;rw[hy];exact(kP y (t::p) q).2 ⟨hp,hq⟩
     ·exact hp.elim
 ·rw[OQ,hu,Option.bind_some];exact(hval q).1
 ·rw[oY w p q _ _ hq',hu,Option.bind_some];exact(hval q).2
theorem uP(k:Nat)(p:Path):∀(l:List D)(j n:Nat),(hZ k p j l)[n]?=(l[n]?).map (cw k (p++[(0,j+n)]))
 | [],j,n=>by simp[hZ]
 | x::r,j,0=>by simp[hZ]
 | x::r,j,n+1=>by
  simp only[hZ,List.getElem?_cons_succ,uP k p r (j+1) n];rw[show j+1+n=j+(n+1) by omega]
theorem uQ(k:Nat)(p:Path):∀(l:List D)(j:Nat),(hZ k p j l).length=l.length
 | [],_=>rfl
 | x::r,j=>by simp[hZ,uQ k p r]
theorem BM(c:D)(p:Path)(s t:Nat×Nat):bc c (p++[s]++[t])=false:=by
 have:∃a b r,p++[s]++[t]=a::b::r:=by
  cases p with
  | nil=>exact⟨s,t,[],rfl⟩
  | cons a p=>cases p with
   | nil=>exact⟨a,s,[t],rfl⟩
   | cons b p=>exact⟨a,b,p++[s]++[t],rfl⟩
 obtain⟨a,b,r,h⟩:=this;rw[h];cases c<;>rfl
theorem uR{k:Nat}(y:D):∀{p:Path}{v:Value}{F:Nat->Prop},af w A v y F->(bc (ct k) p=true->((ct k).at p).fU=true)->(∀s,bc (ct k) (p++[s])=false)->Reach w ct vl k p v y->Pl w A (aa w ct vl) v (cw k p y):=by
 induction y using D.ind with
 | int a n=>intro p v F h _ _ _;cases h with | int h=>exact .rd (.int h)
 | bool b=>intro p v F h _ _ _;cases h;exact .rd .bool
 | str s=>intro p v F h _ _ _;cases h with | str h=>exact .rd (.str h)
 | aF=>intro p v F h _ _ _;cases h;exact .rd .aF
 | fn f caps _=>intro p v F h _ _ _;cases h;exact .rd (.fn rfl (fun j x hx=>by simp at hx))
 | vw x _=>intro p v F h _ _ _;cases h with | vw h=>exact .rd h
 | slice z l _ _ =>
  intro p v F h hS hN hr;obtain⟨h1,h2,_⟩:=hr [] trivial;rw[List.append_nil] at h1 h2;refine .ref ⟨⟨h1,hS⟩,h2,?_⟩;cases h with
  | nil=>exact .inl ⟨_,_,_,rfl⟩
  | slice=>exact .inl ⟨_,_,_,rfl⟩
 | mp ks vs _ _ =>
  intro p v F h hS hN hr;obtain⟨h1,h2,_⟩:=hr [] trivial;rw[List.append_nil] at h1 h2;refine .ref ⟨⟨h1,hS⟩,h2,?_⟩;cases h with
  | mp=>exact .inr ⟨_,rfl⟩
 | bw=>intro p v F h _ _ _;cases h;exact .rd .bw
 | bl=>intro p v F h _ _ _;cases h;exact .rd .bl
 | bE s p=>intro p v F h _ _ _;exact Pl.dead
 | fv n=>intro p v F h _ _ _;exact Pl.dead
 | bq t x _=>intro p v F h _ _ _;cases h with | bq h=>exact .rd (.bq h)
 | ptr l _ =>
  intro p v F h hS hN hr;cases l with
  | nil=>exact Pl.dead
  | cons x r =>
   have hun:=h.un.1;obtain⟨h1,_,h3⟩:=hr [(0,0)] ⟨by unfold D.iS;rw[hun];exact⟨rfl,by simp⟩,trivial⟩;have h3:=h3 (by simp);simp only[cw];cases h with
   | ptr Fs hb hs hr' hF hfs hdis =>
    refine .ref ⟨h1,_,h3,?_⟩;simp only[Nat.add_zero]
 | agg l ih =>
  intro p v F h hS hN hr;cases h with
  | @agg cs _ _ Fs hs hr' hfs hdis =>
   refine .agg (by rw[uQ];exact hs) fun j x hx=>?_
   rw[uP,Option.map_eq_some_iff] at hx;obtain⟨y,hy,rfl⟩:=hx;obtain⟨hj,hy'⟩:=List.getElem?_eq_some_iff.1 hy;rw[Nat.zero_add]
   have hk:(D.agg l).aS 0 j=y:=by
    show l.getD j .dead=y;rw[List.getD_eq_getElem?_getD,hy];rfl
   have:=Reach.aS (i:=0) (off:=j) (u:=cs.getD j undef) hr ⟨rfl,hj⟩ rfl;rw[hk] at this;exact ih y (List.mem_of_getElem? hy) (hr' j y hy) (fun hl=>by rw[hN] at hl;cases hl) (fun s=>BM _ _ _ s) this
 | au l ih =>
  intro p v F h hS hN hr;cases h with
  | @au cs _ _ Fs hs hr' hfs hdis =>
   refine .au (by rw[uQ];exact hs) fun j x hx=>?_
   rw[uP,Option.map_eq_some_iff] at hx;obtain⟨y,hy,rfl⟩:=hx;obtain⟨hj,hy'⟩:=List.getElem?_eq_some_iff.1 hy;rw[Nat.zero_add]
   have hk:(D.au l).aS 0 j=y:=by
    show l.getD j .dead=y;rw[List.getD_eq_getElem?_getD,hy];rfl
   have:=Reach.aS (i:=0) (off:=j) (u:=cs.getD j undef) hr ⟨rfl,hj⟩ rfl;rw[hk] at this;exact ih y (List.mem_of_getElem? hy) (hr' j y hy) (fun hl=>by rw[hN] at hl;cases hl) (fun s=>BM _ _ _ s) this
 | _=>intro p v F h _ _ _;exact Pl.dead
def bL(w:World)(A:Nat->Prop)(R:Value->D->Prop)(v:Value)(d:D):Prop:=(d.gate=true->Pl w A R v d.core)/\(d.gate=false->v=undef)
theorem GR{d:D}(h:∀g x,d≠.when g x):d.core=d/\d.gate=true:=by
 cases d<;>first | exact⟨rfl,rfl⟩ | exact absurd rfl (h _ _)
theorem Pl.mN{R:Value->D->Prop}{v:Value}{d:D}(h:Pl w A R v d)(hR:∀v g x,¬R v (.when g x)):bL w A R v d:=by
 have:∀g x,d≠.when g x:=by
  rintro g x rfl;cases h with
  | rd h=>cases h
  | ref h=>exact hR _ _ _ h
 obtain⟨h1,h2⟩:=GR this;exact⟨fun _=>by rw[h1];exact h,fun hh=>by rw[h2] at hh;cases hh⟩
theorem mQ(v:Value)(g:Bool)(x:D):¬aa w ct vl v (.when g x):=fun h=>h
theorem jY{k:Nat}{F:Nat->Prop}(h:az w A (aa w ct vl) (vl k) F (ct k)):bL w A (aa w ct vl) (vl k) (bB k (ct k)):=by
 cases hc:ct k<;>rw[hc] at h<;>try exact Pl.mN h mQ
 case o x=>exact Pl.mN (uR x h (fun hl=>by rw[hc] at hl;cases hl) (fun s=>by rw[hc];rfl) (Reach.root hc h)) mQ
 case box l =>
  obtain⟨h0,b,cs,e,Fs,h1,h2,h3,h4,h5,h6,h7⟩:=h;refine Pl.mN (.ref ⟨?_,⟨b,0,none⟩,?_,h1⟩) mQ
  ·rw[hc];exact⟨rfl,h0,trivial⟩
  ·rw[hc,h1];rfl
 case row z l =>
  refine Pl.mN (.ref ⟨?_,?_,?_⟩) mQ
  ·rw[hc];exact⟨rfl,fun hl=>by cases hl⟩
  ·rfl
  ·obtain⟨b,sz,cs,e,h1,_⟩:=h
   exact .inl ⟨_,_,_,h1⟩
 case when g c =>
  obtain⟨h1,h2⟩:=h;have key:∀(c:D),(g=true->Pl w A (aa w ct vl) (vl k) c)->(g=true->bL w A (aa w ct vl) (vl k) c):=fun c h hg=>(h hg).mN mQ
  have h1:=key c h1;show bL w A _ _ (.when g c);cases g with
  | true=>exact⟨fun hg=>(h1 rfl).1 (by simpa[D.gate] using hg),fun hg=>(h1 rfl).2 (by simpa[D.gate] using hg)⟩
  | false=>exact⟨fun hg=>by simp[D.gate] at hg,fun _=>h2 rfl⟩
theorem BL{c:D}{p:Path}(hp:p≠[])(s:Nat×Nat):bc c (p++[s])=false:=by
 cases p with
 | nil=>exact absurd rfl hp
 | cons a p=>cases p<;>cases c<;>rfl
theorem vu{k:Nat}{F:Nat->Prop}(h:az w A (aa w ct vl) (vl k) F (ct k)){p:Path}(hp:(ct k).aR p)(hne:p≠[]){a:Addr}(ha:ay w (vl k) (ct k) p=some a) :
  ∃u,w.cell? a=some u/\a.spot=none/\Pl w A (aa w ct vl) u (my k (ct k) p):=by
 obtain⟨u,F1,F2,g1,g2,g3,g4,g5,g6,g7⟩:=h.splitAt hp hne;obtain⟨j1,j2,j3,_⟩:=g7 a ha;refine⟨u,j3,j2,?_⟩;unfold my eH at *;cases hl:bc (ct k) p with
 | true =>
  rw[hl] at g2;simp only at g2|-
  generalize hc:(ct k).at p=c at g2;cases c<;>try exact g2
  all_goals try exact g2.elim
  case o x =>
   have hd:(ct k).a8 p=x:=by unfold D.a8;rw[hc];rfl
   have:=Reach.part h hp hne g1 (fun _=>by rw[hd,hc]) (by rw[hd];exact g2);rw[hd] at this;exact uR x g2 (fun _=>by rw[hc];rfl) (BL hne) this
 | false =>
  rw[hl] at g2;simp only at g2|-
  have hd:(ct k).a8 p=(ct k).at p:=g2.un.1;have:=Reach.part h hp hne g1 (fun hh=>by rw[hl] at hh;cases hh) (by rw[hd];exact g2);rw[hd] at this;exact uR _ g2 (fun hh=>by rw[hl] at hh;cases hh) (BL hne) this
theorem j7{k:Nat}{F:Nat->Prop}(h:az w A (aa w ct vl) (vl k) F (ct k)){p:Path}{v:Value}(hr:aa w ct vl v (.sub k p)) :
  (∃z l,ct k=.row z l/\p=[]/\v=vl k)\/(∃F',af w A v ((ct k).a8 p) F'/\(∀b,F' b->F b)/\Reach w ct vl k p v ((ct k).a8 p)/\(∀z l,ct k≠.row z l)):=by
 obtain⟨⟨h1,hS⟩,h2,hsl⟩:=hr;cases p with
 | nil =>
  simp only[aE,Option.some.injEq] at h2;cases hc:ct k<;>rw[hc] at h h1<;>try exact h1.elim
  case o x =>
   refine .inr ⟨F,by rw[<-h2];exact h,fun _ h=>h,?_,by simp⟩;rw[<-h2];exact Reach.root hc h
  case box l =>
   obtain⟨_,b,cs,e,Fs,h3,_⟩:=h;rw[<-h2,h3] at hsl;rcases hsl with⟨_,_,_,hh⟩ | ⟨_,hh⟩<;>cases hh
  case row z l=>exact .inl ⟨z,l,rfl,rfl,h2.symm⟩
 | cons s p =>
  obtain⟨u,F1,F2,g1,g2,g3,g4,g5,g6,g7⟩:=h.splitAt h1 (by simp);rw[g1] at h2;injection h2 with h2
  subst h2
  have hrow:∀z l,ct k≠.row z l:=by
   intro z l hc;rw[hc] at h1;exact absurd h1 (by simp[D.aR])
  unfold eH at g2;cases hl:bc (ct k) (s::p) with
  | false =>
   rw[hl] at g2;simp only at g2;have hd:(ct k).a8 (s::p)=(ct k).at (s::p):=g2.un.1;have hown:af w A u ((ct k).a8 (s::p)) F1:=by rw[hd];exact g2
   exact .inr ⟨F1,hown,g3,Reach.part h h1 (by simp) g1 (fun hh=>by rw[hl] at hh;cases hh) hown,hrow⟩
  | true =>
   rw[hl] at g2;simp only at g2;obtain⟨x,hat⟩:=vj (hS hl);rw[hat] at g2;have hd:(ct k).a8 (s::p)=x:=by unfold D.a8;rw[hat];rfl
   have hown:af w A u ((ct k).a8 (s::p)) F1:=by rw[hd];exact g2
   exact .inr ⟨F1,hown,g3,Reach.part h h1 (by simp) g1 (fun _=>by rw[hd,hat]) hown,hrow⟩
end
end Go.D3
namespace Go.D3
open Go
def mc:List UInt8->List UInt8->Bool
 | [],[]=>true
 | a::l,b::r=>a == b&&mc l r
 | _,_=>false
def aA(ds:List (Option Nat))(tr:List Nat)(x:Operand)(y:X):Bool :=
 match x,y with
 | .tmp t,.t i=>decide (ds[i]?=some (some t))
 | .tmp t,.v j=>decide (tr[j]?=some t)
 | .const (.int k n),.i m=>decide (k=.i64)&&decide (n=m)&&p9 k n
 | .const (.int k n),.k (.int k' m)=>decide (k=k')&&decide (n=m)&&p9 k n
 | .const (.bool b),.k (.bool c)=>b == c
 | .const (.string s),.k (.str l)=>mc s.data.toList l&&decide (l.length<=65536)
 | .const (.slice none 0 0),.k (.aM _)=>true
 | .const (.pointer none),.k .aF=>true
 | .func f,.k (.fn f' [])=>f == f'
 | .global g,.g n=>g == n&&(gl n).isSome
 | .const .nilIface,.k .bl=>true
 | _,_=>false
def dH(ds:List (Option Nat))(tr:List Nat):List Operand->List X->Bool
 | [],[]=>true
 | x::l,y::r=>aA ds tr x y&&dH ds tr l r
 | _,_=>false
def mq(ds:List (Option Nat))(tr:List Nat):Option Operand->Option X->Bool
 | none,none=>true
 | some x,some y=>aA ds tr x y
 | _,_=>false
def fO(v:Value)(d:D):Bool :=
 match v,d with
 | .int k n,.int k' m=>decide (k=k')&&decide (n=m)&&p9 k n
 | .bool b,.bool c=>b == c
 | .string s,.str []=>s.data.toList.isEmpty
 | .nilFunc,.dead=>true
 | .slice none 0 0,.slice _ []=>true
 | .pointer none,.aF=>true
 | .map none,.bw=>true
 | .nilIface,.bl=>true
 | _,_=>false
def oR:List Value->List D->Bool
 | [],[]=>true
 | v::l,d::r=>fO v d&&oR l r
 | _,_=>false
def lQ(P:Program)(t:TypeId)(zs:List D):Bool :=
 match P.info? t with
 | some i=>match i.zero with
  | some z=>oR z.cells.toList zs&&decide (i.size=zs.length)
  | none=>false
 | none=>false
def y5:D->D
 | .vw (.aM z)=>.slice z []
 | d=>d
def kf:D->D
 | .aM z=>.slice z []
 | d=>d
def kU(P:Program)(t:TypeId)(k:Nat):Bool:=match P.underlying t,k with
 | some (.int _),0=>true
 | some .bool,1=>true
 | some .string,2=>true
 | _,_=>false
def eqFields(P:Program):Nat->List Field->List Nat->Bool
 | _,[],[]=>true
 | i,f::r,k::ks=>f.name != "_"&&decide (f.offset=i)&&kU P f.type k&&eqFields P (i+1) r ks
 | _,_,_=>false
def mn(P:Program)(ds:List (Option Nat))(tr:List Nat)(t:TypeId):List (Nat×Operand)->List (Nat×Nat×X)->Bool
 | [],[]=>true
 | (i,x)::l,(off,n,y)::r=>(match gm P t i with
     | some (o,ft)=>decide (o=off)&&cC P ft n
     | none=>false)&&aA ds tr x y&&mn P ds tr t l r
 | _,_=>false
def AN(P:Program)(t:TypeId):Bool:=match P.underlying t with
 | some (.struct fs)=>fs.toList.all fun f=>(P.info? f.type).isSome
 | _=>false
def ic(ds:List (Option Nat))(tr:List Nat):List (Nat×Operand)->List (Nat×X)->Bool
 | [],[]=>true
 | (i,x)::l,(j,y)::r=>i == j&&aA ds tr x y&&ic ds tr l r
 | _,_=>false
def sC:Op->Option Operand
 | .move x=>some x
 | .assign x=>some x
 | _=>none
def wm:Op->Option (Operand×Operand×Operand)
 | .pick c a b=>some (c,a,b)
 | _=>none
def lp:Op->Option (BinOp×TypeId×Operand×Operand)
 | .binOp op t x y _=>some (op,t,x,y)
 | _=>none
def wi:Op->Option Operand
 | .unOp .not _ x=>some x
 | _=>none
def qe:Op->Option (TypeId×TypeId×Operand)
 | .convert s d x=>some (s,d,x)
 | _=>none
def jX(b:Builtin):Op->Option (List Operand×List TypeId)
 | .call c=>match c.callee with
  | .builtin b'=>if b=b' then some (c.args.toList,c.argTypes.toList) else none
  | _=>none
 | _=>none
def mG:Op->Option (FuncId×List Operand)
 | .call c=>match c.callee with
  | .value (.func f)=>some (f,c.args.toList)
  | _=>none
 | _=>none
def vV:Op->Option (Operand×List Operand)
 | .call c=>match c.callee with
  | .value x=>some (x,c.args.toList)
  | _=>none
 | _=>none
def vY:Op->Option (TypeId×Operand×Operand)
 | .indexAddr t x i=>some (t,x,i)
 | _=>none
def sB:Op->Option (TypeId×Operand)
 | .load t x=>some (t,x)
 | _=>none
def qh:Op->Option (TypeId×Operand×Operand)
 | .store t x y=>some (t,x,y)
 | _=>none
def vX:Op->Option (TypeId×Operand×Nat)
 | .fieldAddr t x f=>some (t,x,f)
 | _=>none
def sy:Op->Option (TypeId×Operand×Nat)
 | .field t x f=>some (t,x,f)
 | _=>none
def vR:Op->Option (TypeId×Array (Nat×Operand))
 | .build t ps=>some (t,ps)
 | _=>none
def vZ:Op->Option (TypeId×Operand×Operand)
 | .index t x i=>some (t,x,i)
 | _=>none
def vW:Op->Option (Operand×Nat)
 | .extract x i=>some (x,i)
 | _=>none
def wg:Op->Option Operand
 | .nilCheck x=>some x
 | _=>none
def sx:Op->Option (TypeId×Operand)
 | .box t x=>some (t,x)
 | _=>none
def vQ:Op->Option TypeId
 | .alloc t=>some t
 | _=>none
def wb:Op->Option (TypeId×Operand×Operand)
 | .makeSlice t x y=>some (t,x,y)
 | _=>none
def sv:Op->Option (TypeId×Nat×Array (Nat×Operand))
 | .buildSlice t n ps=>some (t,n,ps)
 | _=>none
def sE:Op->Option (TypeId×Operand×Option Operand×Option Operand)
 | .slice t x lo hi none=>some (t,x,lo,hi)
 | _=>none
def wa:Op->Option TypeId
 | .makeMap t none=>some t
 | _=>none
def v7:Op->Option (TypeId×Operand×Operand×Bool)
 | .lookup t x i ok=>some (t,x,i,ok)
 | _=>none
def we:Op->Option (TypeId×Operand×Operand×Operand)
 | .mapUpdate t m k v=>some (t,m,k,v)
 | _=>none
def nX(P:Program)(t:TypeId):Option (TypeId×TypeId):=match P.underlying t with
 | some (.map k e)=>some (k,e)
 | _=>none
def zeroV(P:Program)(t:TypeId)(d:D):Bool:=match P.info? t with
 | some i=>match i.zero with
  | some z=>fO z d&&d.bX
  | none=>false
 | none=>false
def wo:Op->Option (TypeId×Operand)
 | .range t x=>some (t,x)
 | _=>none
def wj:Op->Option Operand
 | .next x true=>some x
 | _=>none
def v8:Op->Option (TypeId×Operand)
 | .makeInterface t x=>some (t,x)
 | _=>none
def wc:Op->Option (FuncId×Array Operand×Array Operand)
 | .makeFunc (.func f) first caps=>some (f,first,caps)
 | _=>none
def aQ(P:Program)(ds:List (Option Nat))(tr:List Nat)(o:Oper):Kp->Bool
 | .mv y | .bo y | .bY _ y | .gT _ y | .gW _ y=>match sC o.op with
  | some x=>aA ds tr x y
  | none=>false
 | .pick c a b=>match wm o.op with
  | some (c',a',b')=>aA ds tr c' c&&aA ds tr a' a&&aA ds tr b' b
  | none=>false
 | .bin op x y=>match lp o.op with
  | some (op',_,x',y')=>decide (op=op')&&aA ds tr x' x&&aA ds tr y' y
  | none=>false
 | .shr x y=>match lp o.op with
  | some (op',_,x',y')=>decide (op'=.shr)&&aA ds tr x' x&&aA ds tr y' y
  | none=>false
 | .nD op x y=>match lp o.op with
  | some (op',t,x',y')=>decide (op=op')&&aA ds tr x' x&&aA ds tr y' y&&(match P.underlying t with | some .bool=>true | _=>false)
  | none=>false
 | .not x=>match wi o.op with
  | some x'=>aA ds tr x' x
  | none=>false
 | .conv k x=>match qe o.op with
  | some (s,d,x')=>aA ds tr x' x&&(match P.underlying s,P.underlying d with | some (.int _),some (.int k')=>decide (k=k') | _,_=>false)
  | none=>false
 | .len x=>match jX .len o.op with
  | some ([x'],[t])=>aA ds tr x' x&&(gb P t).isSome
  | _=>false
 | .mm mx x y=>match jX (sf mx) o.op with
  | some ([x',y'],_)=>aA ds tr x' x&&aA ds tr y' y
  | _=>false
 | .nV x=>match jX .len o.op with
  | some ([x'],[t])=>aA ds tr x' x&&(match P.underlying t with | some .string=>true | _=>false)
  | _=>false
 | .ee sz x i=>match vY o.op with
  | some (t,x',i')=>aA ds tr x' x&&aA ds tr i' i&&decide (0<sz)&&(match gb P t with | some e=>cC P e sz | none=>false)
  | none=>false
 | .ld a=>match sB o.op with
  | some (t,a')=>aA ds tr a' a&&iN P t
  | none=>false
 | .mu n a=>match sB o.op with
  | some (t,a')=>aA ds tr a' a&&ko P t&&cC P t n
  | none=>false
 | .fA off a=>match vX o.op with
  | some (t,a',f)=>aA ds tr a' a&&(match gm P t f with | some (o,ft)=>decide (o=off)&&!cC P ft 0&&(P.info? ft).isSome | none=>false)
  | none=>false
 | .nO off x=>match sy o.op with
  | some (t,x',f)=>aA ds tr x' x&&(match gm P t f with | some (o,ft)=>decide (o=off)&&iN P ft | none=>false)
  | none=>false
 | .nP off n x=>match sy o.op with
  | some (t,x',f)=>aA ds tr x' x&&(match gm P t f with | some (o,ft)=>decide (o=off)&&ko P ft&&cC P ft n | none=>false)
  | none=>false
 | .kz zs parts=>match vR o.op with
  | some (t,ps)=>lQ P t (zs.map kf)&&mn P ds tr t ps.toList parts&&AN P t
  | none=>false
 | .nR x i=>match vZ o.op with
  | some (t,x',i')=>aA ds tr x' x&&aA ds tr i' i&&(match P.underlying t with | some .string=>true | _=>false)
  | none=>false
 | .ext i x=>match vW o.op with
  | some (x',i')=>aA ds tr x' x&&i == i'
  | none=>false
 | .dc x=>match wg o.op with
  | some x'=>aA ds tr x' x
  | none=>false
 | .eqs neg ks x y=>match lp o.op with
  | some (op,t,x',y')=>decide (op=if neg then .neq else .eql)&&aA ds tr x' x&&aA ds tr y' y&&(match P.underlying t with | some (.struct fs)=>eqFields P 0 fs.toList ks&&!P.stoodInHeld t | _=>false)&&!P.eqGuardType P.depth t
  | none=>false
 | .call f xs=>match mG o.op with
  | some (f',as)=>f == f'&&dH ds tr as xs&&fy P f
  | none=>false
 | .gj f xs=>match mG o.op with
  | some (f',as)=>f == f'&&dH ds tr as xs&&fy P f
  | none=>false
 | .fB f xs=>match mG o.op with
  | some (f',as)=>f == f'&&dH ds tr as xs&&fy P f
  | none=>false
 | .box n x=>match sx o.op with
  | some (e,x')=>aA ds tr x' x&&cC P e n
  | none=>false
 | .eK n x | .jx n x=>match sx o.op with
  | some (e,x')=>aA ds tr x' x&&cC P e n
  | none=>false
 | .dO zs=>match vQ o.op with
  | some t=>lQ P t (zs.map kf)
  | none=>false
 | .al z bytes l c=>match wb o.op with
  | some (t,l',c')=>aA ds tr l' l&&aA ds tr c' c&&decide (0<z.cells.length)&&(match gb P t with | some e=>lQ P e (z.cells.map y5)&&l7 P e bytes&&decide (0<bytes) | none=>false)
  | none=>false
 | .dP z n parts=>match sv o.op with
  | some (t,n',ps)=>n == n'&&ic ds tr ps.toList parts&&decide (0<z.cells.length)&&decide (n*z.cells.length<=16777216)&&(match gb P t with | some e=>lQ P e z.cells | none=>false)
  | none=>false
 | .jw z x=>match sv o.op with
  | some (t,n',ps)=>decide (n'=1)&&ic ds tr ps.toList [(0,x)]&&decide (0<z.cells.length)&&decide (z.cells.length<=16777216)&&(match gb P t with | some e=>lQ P e z.cells | none=>false)
  | none=>false
 | .st a x=>match qh o.op with
  | some (t,a',x')=>aA ds tr a' a&&aA ds tr x' x&&cC P t 1
  | none=>false
 | .gf n a x=>match qh o.op with
  | some (t,a',x')=>aA ds tr a' a&&aA ds tr x' x&&cC P t n
  | none=>false
 | .jn n a x=>match qh o.op with
  | some (t,a',x')=>aA ds tr a' a&&aA ds tr x' x&&cC P t n
  | none=>false
 | .app sz bytes s x=>match jX .append o.op with
  | some ([s',x'],[t,t'])=>aA ds tr s' s&&aA ds tr x' x&&t == t'&&(match gb P t with
   | some e=>l7 P e bytes&&(match P.info? e with | some i=>decide (0<sz)&&decide (0<bytes)&&decide (i.size=sz)&&i.zero.any (fun z=>decide (z.cells.size=i.size)) | none=>false) | none=>false)
  | _=>false
 | .dw sz bytes b s=>match jX .append o.op with
  | some ([s',x'],[t,t'])=>aA ds tr s' (.t b)&&aA ds tr x' (.t s)&&t == t'&&(match gb P t with
   | some e=>l7 P e bytes&&(match P.info? e with | some i=>decide (0<sz)&&decide (0<bytes)&&decide (i.size=sz)&&i.zero.any (fun z=>decide (z.cells.size=i.size)) | none=>false) | none=>false)
  | _=>false
 | .nf x lo hi=>match sE o.op with
  | some (t,x',lo',hi')=>aA ds tr x' x&&mq ds tr lo' lo&&mq ds tr hi' hi&&(match P.underlying t with | some .string=>true | _=>false)
  | none=>false
 | .sl x lo hi=>match sE o.op with
  | some (t,x',lo',hi')=>aA ds tr x' x&&mq ds tr lo' lo&&mq ds tr hi' hi&&(match P.underlying t with | some (.slice e)=>cC P e 1 | _=>false)
  | none=>false
 | .nZ f caps=>match wc o.op with
  | some (f',first,captured)=>f == f'&&first.isEmpty&&dH ds tr captured.toList caps
  | none=>false
 | .cQ x y=>match jX .copy o.op with
  | some ([x',y'],[t,t'])=>aA ds tr x' x&&aA ds tr y' y&&(match gb P t,gb P t' with | some e,some _=>cC P e 1 | _,_=>false)
  | _=>false
 | .dyn x xs=>match vV o.op with
  | some (x',as)=>aA ds tr x' x&&dH ds tr as xs
  | none=>false
 | .fk=>(wa o.op).isSome
 | .mA ok kk z m k=>match v7 o.op with
  | some (t,m',k',ok')=>aA ds tr m' m&&aA ds tr k' k&&ok == ok'&&(match nX P t with | some (kt,e)=>kU P kt kk&&zeroV P e z | none=>false)
  | none=>false
 | .mw x=>match jX .len o.op with
  | some ([x'],[t])=>aA ds tr x' x&&(nX P t).isSome
  | _=>false
 | .jR kk m k v=>match we o.op with
  | some (t,m',k',v')=>aA ds tr m' m&&aA ds tr k' k&&aA ds tr v' v&&(match nX P t with | some (kt,_)=>kU P kt kk | none=>false)
  | none=>false
 | .ma x=>match qe o.op with
  | some (s,d,x')=>aA ds tr x' x&&(match P.underlying s,P.underlying d with
   | some (.slice e),some .string=>(match P.underlying e with | some (.int .u8)=>true | _=>false)
   | _,_=>false)
  | none=>false
 | .fg x=>match qe o.op with
  | some (s,d,x')=>aA ds tr x' x&&(match P.underlying s,P.underlying d with
   | some .string,some (.slice e)=>(match P.underlying e with | some (.int .u8)=>true | _=>false)
   | _,_=>false)
  | none=>false
 | .od neg x=>match lp o.op with
  | some (op',t,x',.const .nilIface)=>decide (op'=if neg then .neq else .eql)&&aA ds tr x' x&&(match P.underlying t with | some (.interface _)=>true | _=>false)
  | _=>false
 | .mD neg x=>match lp o.op with
  | some (op',t,x',.const (.slice none _ _))=>decide (op'=if neg then .neq else .eql)&&aA ds tr x' x&&(gb P t).isSome
  | _=>false
 | .nY t x=>match v8 o.op with
  | some (t',x')=>decide (t=t')&&aA ds tr x' x&&(match P.underlying t with | some (.interface _)=>false | some _=>true | none=>false)
  | none=>false
 | .fq x=>match wo o.op with
  | some (t,x')=>aA ds tr x' x&&(match P.underlying t with | some .string=>true | _=>false)
  | none=>false
 | .jT j=>match wj o.op with
  | some x'=>aA ds tr x' (.v j)
  | none=>false
def closure(acc:List Nat)(o:Oper):Nat:=o.after.toList.foldl (fun s e=>if Region.binds .any e=true then s ||| (1 <<< e.on ||| acc.getD e.on 0) else s) 0
def cF:List Nat->List Oper->List Nat
 | acc,[]=>acc
 | acc,o::r=>cF (acc++[closure acc o]) r
def dy(cl:List Nat)(i x:Nat):Bool:=(cl.getD i 0).testBit x
def fK:X->List Nat
 | .t n=>[n]
 | _=>[]
def wL:Option X->List Nat
 | some x=>fK x
 | none=>[]
def Kp.reads:Kp->List Nat
 | .mv x | .bo x | .bY _ x | .gT _ x | .gW _ x | .not x | .conv _ x | .len x | .nV x | .ld x | .mu _ x | .fA _ x | .nO _ x | .nP _ _ x | .ext _ x | .dc x | .box _ x | .eK _ x | .jx _ x | .jw _ x | .mw x | .ma x | .mD _ x | .nY _ x | .od _ x | .fq x | .fg x=>fK x
 | .dO _=>[]
 | .fk | .jT _=>[]
 | .dw _ _ b s=>[b,s]
 | .pick a b c | .jR _ a b c=>fK a++fK b++fK c
 | .bin _ x y | .shr x y | .mm _ x y | .nD _ x y | .ee _ x y | .nR x y | .eqs _ _ x y | .al _ _ x y | .st x y | .gf _ x y | .jn _ x y | .cQ x y | .app _ _ x y | .mA _ _ _ x y=>fK x++fK y
 | .kz _ ps=>ps.flatMap fun p=>fK p.2.2
 | .dP _ _ ps=>ps.flatMap fun p=>fK p.2
 | .call _ xs | .fB _ xs | .gj _ xs | .nZ _ xs=>xs.flatMap fK
 | .nf x lo hi | .sl x lo hi=>fK x++wL lo++wL hi
 | .dyn x xs=>fK x++xs.flatMap fK
def Kp.xs:Kp->List X
 | .mv x | .bo x | .bY _ x | .gT _ x | .gW _ x | .not x | .conv _ x | .len x | .nV x | .ld x | .mu _ x | .fA _ x | .nO _ x | .nP _ _ x | .ext _ x | .dc x | .box _ x | .eK _ x | .jx _ x | .jw _ x | .mw x | .ma x | .mD _ x | .nY _ x | .od _ x | .fq x | .fg x=>[x]
 | .dO _=>[]
 | .fk=>[]
 | .jT j=>[.v j]
 | .dw _ _ b s=>[.t b,.t s]
 | .pick a b c | .jR _ a b c=>[a,b,c]
 | .bin _ x y | .shr x y | .mm _ x y | .nD _ x y | .ee _ x y | .nR x y | .eqs _ _ x y | .al _ _ x y | .st x y | .gf _ x y | .jn _ x y | .cQ x y | .app _ _ x y | .mA _ _ _ x y=>[x,y]
 | .kz _ ps=>ps.map (·.2.2)
 | .dP _ _ ps=>ps.map (·.2)
 | .call _ xs | .fB _ xs | .gj _ xs | .nZ _ xs=>xs
 | .nf x lo hi | .sl x lo hi=>x::lo.toList++hi.toList
 | .dyn x xs=>x::xs
def Kp.cA:Kp->Option Nat
 | .bY j _ | .gT j _ | .gW j _=>some j
 | _=>none
def qf(pre:List Nat)(s:aO):Bool :=
 (match s.k.cA with | some j=>!pre.contains j | none=>true)&&s.k.xs.all (fun x=>match x with | .v j=>!pre.contains j | _=>true)
def Kp.eL:Kp->Bool
 | .bY _ _ | .gT _ _ | .gW _ _ | .st _ _ | .gf _ _ _ | .jn _ _ _ | .app _ _ _ _ | .gj _ _ | .dyn _ _ | .bo _ | .cQ _ _ | .jx _ _ | .jw _ _ | .dw _ _ _ _ | .jR _ _ _ _ | .jT _=>true
 | _=>false
def Kp.jJ:Kp->Bool
 | .dw _ _ _ _=>true
 | _=>false
def aO.vi(s:aO):Bool:=s.g.isNone&&match s.k with | .mv (.v _)=>true | _=>false
def eD(o:Oper)(s:aO):Option Nat:=match s.k.cA with
 | some _=>none
 | none=>o.dst
def bx:List Oper->List aO->List (Option Nat)
 | o::l,s::r=>eD o s::bx l r
 | _,_=>[]
def iQ(P:Program)(nt:Nat)(ds:List (Option Nat))(tr:List Nat):Nat->List Oper->List aO->Bool
 | _,[],[]=>true
 | n,o::l,s::r=>(match o.dst with | some d=>decide (d<nt) | none=>true) &&
   (match s.k.cA with | some j=>decide (o.dst=tr[j]?)&&decide (j<tr.length)&&s.g.isNone | none=>true) &&
   (match o.guard,s.g with
    | none,none=>true
    | some (j,want),some (i,want')=>j == i&&want == want'&&decide (i<n)&&(match ds[i]? with | some (some _)=>true | _=>false)
    | _,_=>false)&&aQ P ds tr o s.k&&s.k.reads.all (fun i=>decide (i<n))&&iQ P nt ds tr (n+1) l r
 | _,_,_=>false
def pX:List (Option Nat)->Bool
 | []=>true
 | none::r=>pX r
 | some d::r=>!(r.contains (some d))&&pX r
def so:List Nat->Bool
 | []=>true
 | d::r=>!(r.contains d)&&so r
def o8(tr pre:List Nat):List (Option Nat)->Bool
 | []=>true
 | none::r=>o8 tr pre r
 | some d::r=>(tr.zipIdx.all fun p=>!(p.1 == d) || pre.contains p.2)&&o8 tr pre r
def sM(ds:List (Option Nat))(tr pre:List Nat):List (Nat×Nat)->Bool
 | []=>true
 | (j,i)::r=>pre.contains j&&(match tr[j]?,ds[i]? with | some t,some (some d)=>t == d | _,_=>false)&&!((r.map (·.1)).contains j)&&sM ds tr pre r
def uf(cl:List Nat)(sl:List aO)(e b:Nat):Bool :=
 sl.zipIdx.all fun q=>decide (q.2=e) || !q.1.k.jJ&&!q.1.k.reads.contains b&&(match q.1.g with | some (i,_)=>i != b | none=>true)&&(decide (q.2<=e) || dy cl q.2 e || q.1.vi)
def rv(k:Nat)(cl:List Nat)(sl:List aO):Bool :=
 sl.zipIdx.all fun p=>(p.1.k.reads.all fun i=>dy cl p.2 i)&&(match p.1.g with | some (i,_)=>dy cl p.2 i | none=>true) &&
  (match p.1.k with
   | .dw _ _ b _=>uf cl sl p.2 b
   | kk=>!kk.eL || ((List.range p.2).all fun i=>decide (i<k) || dy cl p.2 i)&&((List.range sl.length).all fun i=>decide (i<=p.2) || dy cl i p.2))
def eo(ops:List Oper):Bool:=ops.zipIdx.all fun p=>p.1.after.toList.all fun e=>!Region.binds .any e || decide (e.on<p.2)
def y7(vs ds:List Nat):Operand->Bool
 | .tmp t=>vs.contains t || !ds.contains t
 | _=>false
def OP(tr vs ds:List Nat)(o:Oper):Bool :=
 o.guard.isNone&&(match o.dst with | some d=>!tr.contains d | none=>false)&&(match o.op with | .move x=>y7 vs ds x | .nilCheck x=>y7 vs ds x | .fieldAddr _ x _=>y7 vs ds x | _=>false)
def y6(tr ds:List Nat):Nat->List Nat->List Nat->List Oper->List Nat
 | _,_,_,[]=>[]
 | i,vs,is,o::r=>if(OP tr vs ds o&&o.after.toList.all fun e=>!Region.binds .any e || is.contains e.on)=true then i::y6 tr ds (i+1) (o.dst.toList++vs) (i::is) r else y6 tr ds (i+1) vs is r
def Av:List Oper->List Nat
 | []=>[]
 | o::r=>o.dst.toList++Av r
def vb(tr:List Nat)(ops:Array Oper):List Nat:=y6 tr (Av ops.toList) 0 [] [] ops.toList
def u9(tr:List Nat)(ops:Array Oper):List Nat:=vb tr ops++(List.range ops.size).filter fun i=>!(vb tr ops).contains i
def posOf:List Nat->Nat->Nat
 | [],_=>0
 | i::r,j=>if i=j then 0 else posOf r j+1
def eR(ρ:Nat->Nat)(o:Oper):Oper:={ o with after:=o.after.map fun e=>{ e with on:=ρ e.on },guard:=o.guard.map fun g=>(ρ g.1,g.2) }
def eO(l:List Nat)(ops:Array Oper):Array Oper:=(l.map fun i=>eR (posOf l) (ops.getD i default)).toArray
def mJ(l:List Nat)(n:Nat):Bool:=decide (l.length=n)&&((List.range n).all fun j=>decide (posOf l j<n)&&decide (l.getD (posOf l j) n=j))&&(List.range n).all fun i=>decide (l.getD i n<n)&&decide (posOf l (l.getD i n)=i)
def jF(n:Nat)(ops:List Oper):Bool:=ops.all fun o=>match o.guard with | some (j,_)=>decide (j<n) | none=>true
def aO.mo(s:aO):Bool:=s.g.isNone&&match s.k with | .mv _ | .dc _ | .fA _ _=>true | _=>false
def pU(draw:Bool)(ops:Array Oper)(l:List aO):Bool:=draw&&!rv 0 (cF [] ops.toList) l
def ep(tr:List Nat)(draw:Bool)(ops:Array Oper)(l:List aO):Array Oper:=if pU draw ops l=true then eO (u9 tr ops) ops else ops
def wB(n i:Nat):Array Bool:=((List.range n).map fun j=>decide (j<i)).toArray
def CO(e:Array Oper)(k:Nat)(l:List aO):Bool:=(l.take k).all aO.mo&&Region.noSelect e&&(List.range k).all fun i=>Region.free .any e (wB e.size i) i
def kH(tr:List Nat)(draw:Bool)(ops:Array Oper)(l:List aO):Nat:=if pU draw ops l=true then(vb tr ops).length else 0
def ed(P:Program)(nt:Nat)(tr:List Nat)(ops:Array Oper)(draw:Bool)(pre:List Nat)(l:List aO)(post:List (Nat×Nat)):Bool :=
 let e:=ep tr draw ops l;let ds:=bx e.toList l
 decide (e.size=l.length)&&iQ P nt ds tr 0 e.toList l&&pX ds&&o8 tr pre ds&&sM ds tr pre post&&pre.all (fun j=>decide (j<tr.length))&&l.all (qf pre) &&
  (!draw || (P.follows .mixedOrders&&eo e.toList&&rv (kH tr draw ops l) (cF [] e.toList) l)) &&
  (!pU draw ops l || (mJ (u9 tr ops) ops.size&&jF ops.size ops.toList&&eo ops.toList&&CO e (kH tr draw ops l) l&&decide (kH tr draw ops l<=l.length)))
def nM(ops:Array Oper):Bool:=ops.toList.all fun o=>o.after.toList.all fun e=>!Region.binds .any e || decide (e.on<ops.size)
def dX(i j:Nat)(ops:Array Oper):Array Oper:=ops.modify j fun o=>{ o with after:=o.after.push ⟨i,.data⟩ }
def me(P:Program)(nt:Nat)(tr pre:List Nat):RT->Array Oper->Bool
 | .leaf l post,ops=>ed P nt tr ops true pre l post
 | .two i j pm a b,ops=>decide (i≠j)&&decide (i<ops.size)&&decide (j<ops.size)&&nM ops&&jF ops.size ops.toList&&mJ pm ops.size&&me P nt tr pre a (dX i j ops)&&me P nt tr pre b (eO pm (dX j i ops))
def bI(P:Program)(nt:Nat)(tr:List Nat):Code->C->Bool
 | .skip,.skip=>true
 | .region _ ops draw,.ops pre l post=>ed P nt tr ops draw pre l post
 | .region _ ops draw,.alt pre t=>draw&&eo ops.toList&&me P nt tr pre t ops
 | .seq (.region _ ops draw) (.cond x a b),.om pre l post y c d=>ed P nt tr ops draw pre l post&&aA (bx (ep tr draw ops l).toList l) tr x y&&bI P nt tr a c&&bI P nt tr b d
 | .seq (.region _ ops draw) (.seq (.cond x a b) r),.sF pre l post y c d e=>ed P nt tr ops draw pre l post&&aA (bx (ep tr draw ops l).toList l) tr x y&&bI P nt tr a c&&bI P nt tr b d&&bI P nt tr r e
 | .seq a b,.seq c d=>bI P nt tr a c&&bI P nt tr b d
 | .cond x a b,.cond y c d=>aA [] tr x y&&bI P nt tr a c&&bI P nt tr b d
 | .block i a,.block j c=>i == j&&bI P nt tr a c
 | .loop a,.loop c=>bI P nt tr a c
 | .exit i,.exit j=>i == j
 | .ret,.ret=>true
 | _,_=>false
def dI(nt:Nat)(tr:List Nat):Bool:=so tr&&tr.all (fun t=>decide (t<nt))&&decide (tr.length<500)
end Go.D3
namespace Go.D3
open Go
theorem AE:∀{l r:List UInt8},mc l r=true->l=r
 | [],[],_=>rfl
 | [],_::_,h=>by simp[mc] at h
 | _::_,[],h=>by simp[mc] at h
 | a::l,b::r,h=>by
  simp[mc] at h;rw[h.1,AE h.2]
theorem uI(s:ByteArray):s=⟨s.data.toList.toArray⟩:=by cases s;simp
section
variable{P:Program}{o:Oper}{w:World}{A:Nat->Prop}{ct:Nat->D}{vl:Nat->Value}{a:Act}{v:Value}
theorem dJ{k:IntKind}{n:Int}(h:Pl w A (aa w ct vl) v (.int k n)):v=.int k n/\k.has n:=by
 cases h with
 | rd h=>cases h with | int h=>exact⟨rfl,h⟩
 | ref h=>exact h.elim
theorem pl_bool{b:Bool}(h:Pl w A (aa w ct vl) v (.bool b)):v=.bool b:=by
 cases h with
 | rd h=>cases h;rfl
 | ref h=>exact h.elim
theorem fI{l:List UInt8}(h:Pl w A (aa w ct vl) v (.str l)):v=.string ⟨l.toArray⟩/\l.length<=maxLen:=by
 cases h with
 | rd h=>cases h with | str h=>exact⟨rfl,h⟩
 | ref h=>exact h.elim
theorem j0{l:List D}(h:Pl w A (aa w ct vl) v (.agg l)):∃cs:Array Value,v=.agg cs/\cs.size=l.length/\∀j x,l[j]?=some x->Pl w A (aa w ct vl) (cs.getD j undef) x:=by
 cases h with
 | rd h=>cases h with | agg hs hr=>exact⟨_,rfl,hs,fun j x hx=>.rd (hr j x hx)⟩
 | ref h=>exact h.elim
 | agg hs hr=>exact⟨_,rfl,hs,hr⟩
theorem LS{l:List D}(h:Pl w A (aa w ct vl) v (.au l)):∃cs:Array Value,v=.tuple cs/\cs.size=l.length/\∀j x,l[j]?=some x->Pl w A (aa w ct vl) (cs.getD j undef) x:=by
 cases h with
 | rd h=>cases h with | au hs hr=>exact⟨_,rfl,hs,fun j x hx=>.rd (hr j x hx)⟩
 | ref h=>exact h.elim
 | au hs hr=>exact⟨_,rfl,hs,hr⟩
theorem ot{l:List D}(h:Pl w A (aa w ct vl) v (.ptr l)):∃b off,v=.pointer (some ⟨b,off,none⟩)/\A b/\∀j x,l[j]?=some x->∃u,w.cell? ⟨b,off+j,none⟩=some u/\Rd w A u x:=by
 cases h with
 | rd h=>cases h with | ptr hA vs hc hr=>exact⟨_,_,rfl,hA,fun j x hx=>⟨vs j,hc j x hx,hr j x hx⟩⟩
 | ref h=>exact h.elim
theorem bK{d:D}(h:Pl w A (aa w ct vl) v d)(hd:∀k p,d≠.sub k p)(ha:∀k p,d≠.aq k p)(hf:∀f c,d≠.fn f c)(hg:∀l,d≠.agg l)(ht:∀l,d≠.au l)(hp:∀k p n,d≠.pre k p n:=by simp):Rd w A v d:=by
 cases h with
 | rd h=>exact h
 | @ref v d h=>cases d<;>first | exact h.elim | exact absurd rfl (hd _ _) | exact absurd rfl (ha _ _) | exact absurd rfl (hf _ _) | exact absurd rfl (hp _ _ _)
 | agg=>exact absurd rfl (hg _)
 | au=>exact absurd rfl (ht _)
 | fn=>exact absurd rfl (hf _ _)
theorem mM{z:D}{L:List D}(h:Pl w A (aa w ct vl) v (.slice z L)):Rd w A v (.slice z L) :=
 bK h (by simp) (by simp) (by simp) (by simp) (by simp)
theorem dh{k:Nat}{p:Path}(h:Pl w A (aa w ct vl) v (.sub k p)):aa w ct vl v (.sub k p):=by
 cases h with
 | rd h=>cases h
 | ref h=>exact h
theorem eP{k:Nat}{p:Path}(h:Pl w A (aa w ct vl) v (.aq k p)):lR w ct vl v k p:=by
 cases h with
 | rd h=>cases h
 | ref h=>exact h
theorem lu{f:FuncId}{caps:List D}(h:Pl w A (aa w ct vl) v (.fn f caps)):∃cs:Array Value,v=.func (.func f) #[] cs/\cs.size=caps.length/\∀j x,caps[j]?=some x->Pl w A (aa w ct vl) (cs.getD j undef) x:=by
 cases h with
 | rd h=>cases h with | fn hs hr=>exact⟨_,rfl,hs,fun j x hx=>.rd (hr j x hx)⟩
 | ref h=>exact h.elim
 | fn hs hr=>exact⟨_,rfl,hs,hr⟩
theorem wI{z:D}{L:List D}(h:Rd w A v (.slice z L)):∃p cap,v=.slice p L.length cap/\L.length<=cap/\cap<=maxLen /\
  (L≠[]->∃b off,p=some ⟨b,off,none⟩/\A b/\0<z.cells.length/\(∀x∈L,x.cells.length=z.cells.length)/\∀j x,cellAt L z.cells.length j=some x->∃u,w.cell? ⟨b,off+j,none⟩=some u/\Rd w A u x):=by
 cases h with
 | nil=>exact⟨none,0,rfl,Nat.le_refl _,Nat.zero_le _,fun h=>absurd rfl h⟩
 | empty hm=>exact⟨_,_,rfl,Nat.zero_le _,hm,fun h=>absurd rfl h⟩
 | slice hA hc hm hz hzz hsz vs hcells hr =>
  subst hzz;exact⟨_,_,rfl,hc,hm,fun _=>⟨_,_,rfl,hA,hz,hsz,fun j x hx=>⟨vs j,hcells j x hx,hr j x hx⟩⟩⟩
theorem sI{z:D}{L:List D}{F:Nat->Prop}(h:af w A v (.slice z L) F):∃p cap,v=.slice p L.length cap/\L.length<=cap/\cap<=maxLen/\(L≠[]->∃b off,p=some ⟨b,off,none⟩):=by
 cases h with
 | nil=>exact⟨none,0,rfl,Nat.le_refl _,Nat.zero_le _,fun h=>absurd rfl h⟩
 | slice Fs hb hroom hc hm hz hzz hsz hr hF hfs hdis=>exact⟨_,_,rfl,hc,hm,fun _=>⟨_,_,rfl⟩⟩
theorem lN{w:World}{A:Nat->Prop}{x:D}(h:Pl w A (aa w ct vl) v x){l:List D}(hl:x.cellsOf=some l):v.cells.size=l.length/\∀j c,l[j]?=some c->Pl w A (aa w ct vl) (v.cells.getD j undef) c:=by
 have one:(v.cells=#[v])->l=[x]->v.cells.size=l.length/\∀j c,l[j]?=some c->Pl w A (aa w ct vl) (v.cells.getD j undef) c:=by
  rintro h1 rfl;refine⟨by simp[h1],fun j c hc=>?_⟩;cases j with
  | zero=>simp at hc;subst hc;simpa[h1] using h
  | succ j=>simp at hc
 have rdc:∀{v:Value}{d:D},Rd w A v d->(∀l,d≠.agg l)->d≠.dead->(∀y,d≠.o y)->(∀y,d≠.vw y)->v.cells=#[v]:=by
  intro v d h h1 h2 h3 h4;cases h<;>first | rfl | exact absurd rfl (h1 _) | exact absurd rfl h2 | exact absurd rfl (h3 _) | exact absurd rfl (h4 _)
 cases x<;>simp only[D.cellsOf,Option.some.injEq,reduceCtorEq] at hl
 case agg l' =>
  subst hl;obtain⟨cs,rfl,h1,h2⟩:=j0 h;exact⟨h1,h2⟩
 case pre k p n =>
  refine one ?_ hl.symm;cases h with
  | rd h=>cases h
  | ref h=>obtain⟨q,m,c,_,_,rfl⟩:=h;rfl
 all_goals
  refine one ?_ hl.symm
 case sub k p=>obtain⟨_,_,⟨q,n,c,rfl⟩ | ⟨r,rfl⟩⟩:=dh h<;>rfl
 case aq k p=>obtain⟨_,_,_,rfl⟩:=eP h;rfl
 case fn f caps=>obtain⟨cs,rfl,_⟩:=lu h;rfl
 all_goals exact rdc (bK h (by simp) (by simp) (by simp) (by simp) (by simp)) (by simp) (by simp) (by simp) (by simp)
end
end Go.D3
