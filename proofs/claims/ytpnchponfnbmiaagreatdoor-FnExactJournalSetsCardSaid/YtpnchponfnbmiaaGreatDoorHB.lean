/- WHAT A READING SAYS OF A VALUE; struct literals, comparisons of structs, slices of views, function values. Generic. -/
import Derived.Test.YtpnchponfnbmiaaGreatDoorHA
import Derived.Attr
import Derived.Laws.Entries
import Derived.Laws.Tables
import Derived.Laws.MakeOwn
import Derived.Laws.Cells
import Derived.Laws.StructEq
import Derived.Orders
namespace Go.D3
open Go
structure St where
 env:List D
 n:Nat
 tmp:List D
def nth:List D->Nat->D
 | [],_=>.dead
 | a::_,0=>a
 | _::l,i+1=>nth l i
def eP:List D->Nat->D->List D
 | [],_,_=>[]
 | _::l,0,x=>x::l
 | a::l,i+1,x=>a::eP l i x
def St.cont(st:St)(k:Nat):D:=if k<1000 then nth st.env k else if k<1000+st.n then nth st.tmp (999+st.n-k) else .dead
def St.put(st:St)(k:Nat)(c:D):St:=if k<1000 then⟨eP st.env k c,st.n,st.tmp⟩ else if k<1000+st.n then⟨st.env,st.n,eP st.tmp (999+st.n-k) c⟩ else st
def St.push(st:St)(c:D):St:=⟨st.env,st.n+1,c::st.tmp⟩
def St.kill(st:St)(q:D->Bool):St:=⟨eB q st.env,st.n,eB q st.tmp⟩
def St.rd(st:St):X->D
 | .t i=>cu (1000+i) (st.cont (1000+i))
 | .v j=>cu j (st.cont j)
 | .i n=>.int .i64 n
 | .k d=>d
 | .g n=>(gl n).getD .dead
def aV(k:Nat):D->Bool
 | .sub j _=>j == k
 | .av j _=>j == k
 | _=>false
def fH:D->Bool
 | .sub j _=>decide (1000<=j)
 | .av j _=>decide (1000<=j)
 | _=>false
def D.hole(c:D)(p:Path):D:=c.setAt p (eV c p)
def D.o?:D->Option D
 | .o x=>some x
 | _=>none
def D.b8:D->Bool
 | .int _ _ | .bool _ | .str _=>true
 | _=>false
def jg:List D->Bool
 | []=>true
 | x::r=>x.b8&&jg r
def eC(f:D->Option D):List D->Option (List D)
 | []=>some []
 | x::r=>(f x).bind fun y=>(eC f r).bind fun l=>some (y::l)
def D.fk:D->Option D
 | .int k n=>some (.int k n)
 | .bool b=>some (.bool b)
 | .str s=>some (.str s)
 | .bc=>some .bc
 | .slice z l=>some (.vw (.slice z l))
 | .ptr l=>some (.vw (.ptr l))
 | .aB z=>some (.slice z [])
 | _=>none
def D.rr:D->Option D
 | .agg l=>(eC D.fk l).bind fun l'=>some (.agg l')
 | x=>x.fk
def D.ud:D->Option D
 | .o x=>some x
 | c=>c.fk
def D.jl:D->Option D
 | .o x=>some x
 | .row z l=>(eC D.rr l).bind fun l'=>some (.slice z l')
 | .box l=>(eC D.ud l).bind fun l'=>some (.ptr l')
 | _=>none
def cN{α:Type}(x:Option α)(K:α->Prop):Prop :=
 match x with
 | some a=>K a
 | none=>False
def eH(k:Nat)(p:Path)(K:D->St->Prop)(st:St):Prop :=
 match p with
 | []=>cN (st.cont k).jl fun x=>K x ((st.kill (aV k)).put k .dead)
 | s::p=>K ((st.cont k).bm (s::p)) ((st.kill (bF k (s::p))).put k (((st.kill (bF k (s::p))).cont k).hole (s::p)))
def nq(k:Nat)(p:Path):D->Prop
 | .sub j q=>j≠k\/apart p q=true
 | .av j q=>j≠k\/apart p q=true
 | _=>True
def ox(r:List D):D->Prop
 | .sub k p=>bH (nq k p) r
 | _=>True
mutual
def aD:D->(D->St->Prop)->St->Prop
 | .int k n,K,st=>K (.int k n) st
 | .bool b,K,st=>K (.bool b) st
 | .str s,K,st=>K (.str s) st
 | .bc,K,st=>K .bc st
 | .fn f [],K,st=>K (.fn f []) st
 | .fn f (c::r),K,st=>(D.fn f (c::r)).refs (fun _=>False)/\K (.vw (.fn f (c::r))) st
 | .sub k p,K,st=>eH k p K st
 | .agg l,K,st=>b6 l (fun l' st=>K (.agg l') st) st
 | .slice z l,K,st=>K (.vw (.slice z l)) st
 | .ptr l,K,st=>K (.vw (.ptr l)) st
 | .aB z,K,st=>K (.slice z []) st
 | .bJ,K,st=>K .bJ st
 | .aY,K,st=>K .aY st
 | .bf t x,K,st=>K (.bf t x) st
 | _,_,_=>False
def b6:List D->(List D->St->Prop)->St->Prop
 | [],K,st=>K [] st
 | x::r,K,st=>x.refs (ox r)/\aD x (fun x' st=>b6 r (fun r' st=>K (x'::r') st) st) st
end
theorem aaF{k:Nat}{p:Path}{K K':D->St->Prop}(hK:∀x st,K x st->K' x st){st:St}(h:eH k p K st):eH k p K' st:=by
 cases p with
 | nil =>
  simp only[eH] at h|-
  cases hc:(st.cont k).jl with
  | none=>rw[hc] at h;exact h.elim
  | some x=>rw[hc] at h;exact hK _ _ h
 | cons s p=>simp only[eH] at h|-;exact hK _ _ h
mutual
theorem No:∀(d:D){K K':D->St->Prop}(_:∀x st,K x st->K' x st){st:St},aD d K st->aD d K' st
 | .int _ _,K,K',hK,st,h=>by simp only[aD] at h|-;exact hK _ _ h
 | .bool _,K,K',hK,st,h=>by simp only[aD] at h|-;exact hK _ _ h
 | .str _,K,K',hK,st,h=>by simp only[aD] at h|-;exact hK _ _ h
 | .bc,K,K',hK,st,h=>by simp only[aD] at h|-;exact hK _ _ h
 | .fn _ [],K,K',hK,st,h=>by simp only[aD] at h|-;exact hK _ _ h
 | .slice _ _,K,K',hK,st,h=>by simp only[aD] at h|-;exact hK _ _ h
 | .ptr _,K,K',hK,st,h=>by simp only[aD] at h|-;exact hK _ _ h
 | .aB _,K,K',hK,st,h=>by simp only[aD] at h|-;exact hK _ _ h
 | .bJ,K,K',hK,st,h=>by simp only[aD] at h|-;exact hK _ _ h
 | .aY,K,K',hK,st,h=>by simp only[aD] at h|-;exact hK _ _ h
 | .bf _ _,K,K',hK,st,h=>by simp only[aD] at h|-;exact hK _ _ h
 | .mp _ _,K,K',hK,st,h=>by simp only[aD] at h
 | .bL _ _,K,K',hK,st,h=>by simp only[aD] at h
 | .eo _,K,K',hK,st,h=>by simp only[aD] at h
 | .pre _ _ _,K,K',hK,st,h=>by simp only[aD] at h
 | .sub k p,K,K',hK,st,h=>by simp only[aD] at h|-;exact aaF hK h
 | .agg l,K,K',hK,st,h=>by simp only[aD] at h|-;exact r9 l (fun _ _ h=>hK _ _ h) h
 | .fn _ (_::_),K,K',hK,st,h=>by simp only[aD] at h|-;exact⟨h.1,hK _ _ h.2⟩
 | .al _,K,K',hK,st,h=>by simp only[aD] at h
 | .vw _,K,K',hK,st,h=>by simp only[aD] at h
 | .o _,K,K',hK,st,h=>by simp only[aD] at h
 | .box _,K,K',hK,st,h=>by simp only[aD] at h
 | .row _ _,K,K',hK,st,h=>by simp only[aD] at h
 | .av _ _,K,K',hK,st,h=>by simp only[aD] at h
 | .when _ _,K,K',hK,st,h=>by simp only[aD] at h
 | .dead,K,K',hK,st,h=>by simp only[aD] at h
theorem r9:∀(l:List D){K K':List D->St->Prop}(_:∀x st,K x st->K' x st){st:St},b6 l K st->b6 l K' st
 | [],K,K',hK,st,h=>by simp only[b6] at h|-;exact hK _ _ h
 | x::r,K,K',hK,st,h=>by simp only[b6] at h|-;exact⟨h.1,No x (fun _ _ h=>r9 r (fun _ _ h=>hK _ _ h) h) h.2⟩
end
def aQ:D->D
 | .vw (.slice z l)=>.slice z l
 | .vw (.ptr l)=>.ptr l
 | .vw (.agg l)=>.agg l
 | .vw (.fn f l)=>.fn f l
 | .vw (.mp ks vs)=>.mp ks vs
 | .vw (.al l)=>.al l
 | .vw _=>.dead
 | .int k n=>.int k n
 | .bool b=>.bool b
 | .str s=>.str s
 | .bc=>.bc
 | .fn f l=>.fn f l
 | .dead=>.dead
 | .bJ=>.bJ
 | .aY=>.aY
 | .bf t x=>.bf t x
 | d=>.o d
def rM(z:D):List D->Bool
 | []=>true
 | x::r=>decide (x.cells.length=z.cells.length)&&rM z r
def D.rA:D->Nat->Option D
 | .o (.ptr l),n=>some (.ptr (l.drop n))
 | _,_=>none
def a8(ob:Nat->D):Nat->D->Option D
 | 0,_=>none
 | n+1,d=>match d with
  | .sub k p=>(lk ob k).bind fun c=>match c with
   | .row z l=>(eC (a8 ob n) l).bind fun l'=>if rM z l'=true then some (.slice z l') else none
   | c=>if(c.bm p).isAgg=true then none else some (c.bm p)
  | .pre k p m=>(lk ob k).bind fun c=>match c with
   | .row _ _=>none
   | c=>match c.bm p with
    | .slice z l=>some (.slice z (l.take m))
    | _=>none
  | .av k p=>(lk ob k).bind fun c=>match c,p with
   | .box l,[(_,off)]=>(eC (a8 ob n) l).bind fun l'=>some (.ptr (l'.drop off))
   | .o (.ptr l),[(_,off)]=>some (.ptr (l.drop off))
   | .box l,[(_,off),(_,o2)]=>(l.getD off .dead).rA o2
   | _,_=>none
  | .agg l=>(eC (a8 ob n) l).bind fun l'=>some (.agg l')
  | .o x=>some x
  | .aB z=>some (.slice z [])
  | .al _=>none
  | .dead=>none
  | .when _ _=>none
  | .box _=>none
  | .row _ _=>none
  | .fn f l=>(eC (a8 ob n) l).bind fun l'=>some (.fn f l')
  | x=>some x
def iv(ob:Nat->D)(rd:X->D):List X->Option (List D)
 | []=>some []
 | x::r=>(a8 ob 4 (rd x).core).bind fun y=>(iv ob rd r).bind fun l=>some (y::l)
def dO(rd:X->D):List X->Bool
 | []=>true
 | x::r=>(rd x).gate&&dO rd r
mutual
def D.a7:D->Bool
 | .vw _=>false
 | .bf _ _=>false
 | .slice _ l=>db l
 | .agg l=>db l
 | .al l=>db l
 | .ptr l=>db l
 | _=>true
def db:List D->Bool
 | []=>true
 | x::r=>x.a7&&db r
end
def dD:D->Prop:=fun _=>False
def kM(rd:X->D):List X->Prop
 | []=>True
 | x::r=>(rd x).core.refs dD/\kM rd r
def lH(g:Option Bool)(p:Prop):Prop :=
 match g with
 | none=>p
 | some b=>b=true->p
def qg(g:Option Bool)(v:D):D :=
 match g with
 | none=>v
 | some b=>.when b v
def D.cn:D->Bool
 | .o _ | .box _ | .row _ _ | .when _ _=>false
 | _=>true
def gZ(r:Option PR)(g:Option Bool)(K:St->Prop)(st:St):Prop :=
 match r with
 | none=>g=some false/\K (st.push (.when false (.bool false)))
 | some (side,res)=>lH g side/\res.cn=true/\K (st.push (qg g res))
def fE(r:Option PR)(g:Option Bool)(K:St->Prop)(st:St):Prop :=
 match g,r with
 | none,some (side,c)=>side/\K (st.push c)
 | _,_=>False
def D.fS:D->Option D
 | .int k n=>some (.int k n)
 | .bool b=>some (.bool b)
 | .str s=>some (.str s)
 | .bc=>some .bc
 | .slice z l=>some (.slice z l)
 | .ptr l=>some (.ptr l)
 | .aB z=>some (.slice z [])
 | .fn f []=>some (.fn f [])
 | .mp ks vs=>some (.mp ks vs)
 | .bJ=>some .bJ
 | .aY=>some .aY
 | .bf t x=>some (.bf t x)
 | _=>none
def pL:List D->Bool
 | []=>true
 | x::r=>x.pc&&pL r
def xL(n:Nat)(x:D):Option PR:=x.core.cellsOf.bind fun l=>some ((x.gate=true/\0<n/\pL l=true)/\l.length=n,.box l)
def xN(n:Nat)(x:D):Option PR:=x.core.cellsOf.bind fun l=>(eC D.fS l).bind fun l'=>some (x.gate=true/\l.length=n,.ptr l')
def zo(z:D)(bytes:Nat)(l c:D):Option PR :=
 l.core.int?.bind fun a=>c.core.int?.bind fun b=>some ((l.gate=true/\c.gate=true)/\0<=a/\a<=b/\bytes*b<=281474976710656,.o (.slice z (List.replicate a.toNat z)))
def nF(rd:X->D)(sz:Nat):List D->List (Nat×X)->Option (Bool×List D)
 | es,[]=>some (true,es)
 | es,(i,x)::r=>(rd x).core.cellsOf.bind fun l =>
  if l.length=sz/\i<es.length/\pL l=true then(nF rd sz (eP es i (rd x).core) r).bind fun p=>some ((rd x).gate&&p.1,p.2) else none
def four:List D->Bool
 | []=>false
 | [_]=>false
 | [_,_]=>false
 | [_,_,_]=>false
 | _::_::_::_::_=>true
def AV:Bool->D->List D->D
 | true,z,l=>.o (.slice z l)
 | false,z,l=>.row z l
def sq(rd:X->D)(z:D)(n:Nat)(parts:List (Nat×X)):Option PR :=
 match n,parts with
 | 0,[]=>some (True,.o (.slice z []))
 | 0,_=>none
 | n+1,parts=>(nF rd z.cells.length (List.replicate (n+1) z) parts).bind fun p=>some (p.1=true,AV (four p.2&&jg p.2) z p.2)
def AU(x:D):Option PR:=x.core.oE.bind fun s=>some (x.gate=true,.o (.bL s 0))
def yk(x:D):Option PR:=x.core.oE.bind fun s=>some (x.gate=true/\s.length<=140737488355328,.o (sv s))
def bY(k:Kp)(rd:X->D):Option PR :=
 match k with
 | .gB x=>yk (rd x)
 | .box n x=>xL n (rd x)
 | .gh n x=>xN n (rd x)
 | .cB zs=>some (zs≠[],.box zs)
 | .ah z bytes l c=>zo z bytes (rd l) (rd c)
 | .ch z n parts=>sq rd z n parts
 | .gF=>some (True,.o (.mp [] []))
 | .fq x=>AU (rd x)
 | _=>none
def eQ(P:Program)(f:FuncId):Bool:=match P.funcs[f]? with
 | some fn=>fn.body.isSome&&!(fn.name == "runtime.NumGoroutine")
 | none=>false
def bK[Mode](P:Program)(f:FuncId)(as gs:List D)(Q:D->List D->Prop):Prop :=
 eQ P f=true/\∀(w:World)(A:Nat->Prop)(vs:Array Value)(gv:Nat->Value)(Fs:Nat->Nat->Prop),fb w A->(∀b,A b->b<w.heap.size)->vs.size=as.length ->
  (∀(j:Nat)(a:D),as[j]?=some a->Pl w A (af w (nth gs) gv) (vs.getD j undef) a) ->
  (∀k,aI w A (af w (nth gs) gv) (gv k) (Fs k) (nth gs k))->(∀k,(nth gs k).isObj=false->∀b,¬Fs k b) ->
  (∀i j b,i≠j->Fs i b->¬Fs j b)->(∀k b,Fs k b->b<w.heap.size/\¬A b) ->
  Calls P f vs w fun e w'=>∃(rc:D)(gs':List D)(v:Value)(F:Nat->Prop)(gv':Nat->Value)(Fs':Nat->Nat->Prop),Q rc gs'/\e=.returned v/\w.heap.size<=w'.heap.size /\
   aI w' (fun b=>A b\/(w.heap.size<=b/\b<w'.heap.size/\¬F b/\∀j,¬Fs' j b)) (af w' (nth gs') gv') v F rc/\(rc.isObj=false->∀b,¬F b) /\
   (∀k,aI w' (fun b=>A b\/(w.heap.size<=b/\b<w'.heap.size/\¬F b/\∀j,¬Fs' j b)) (af w' (nth gs') gv') (gv' k) (Fs' k) (nth gs' k))/\(∀k,(nth gs' k).isObj=false->∀b,¬Fs' k b) /\
   (∀k,nth gs k≠.dead->gv' k=gv k) /\
   (∀b,F b->b<w'.heap.size/\(w.heap.size<=b\/∃j,Fs j b)/\∀j,¬Fs' j b)/\(∀j b,Fs' j b->b<w'.heap.size/\(w.heap.size<=b\/∃j,Fs j b))/\(∀i j b,i≠j->Fs' i b->¬Fs' j b) /\
   (∀b,b<w.heap.size->(∀j,¬Fs j b)->w'.heap[b]?=w.heap[b]?)/\w'.os=w.os/\w'.tape=w.tape/\cJ w w'
def fK[Mode](P:Program)(f:FuncId)(as gs:List D)(rc:D)(gs':List D):Prop:=bK P f as gs fun r g=>r=rc/\g=gs'
theorem bK.imp[Mode]{P:Program}{f:FuncId}{as gs:List D}{Q Q':D->List D->Prop}(h:bK P f as gs Q)(hQ:∀r g,Q r g->Q' r g):bK P f as gs Q' :=
 ⟨h.1,fun w A vs gv Fs h0 h1 h2 h3 h4 h5 h6 h7=>(h.2 w A vs gv Fs h0 h1 h2 h3 h4 h5 h6 h7).mono fun _ _ ⟨rc,gs',v,F,gv',Fs',q,r⟩=>⟨rc,gs',v,F,gv',Fs',hQ _ _ q,r⟩⟩
def DZ[Mode](P:Program)(f:FuncId)(as gs:List D)(rc:D):Prop :=
 eQ P f=true/\∀(w:World)(A:Nat->Prop)(vs:Array Value)(gv:Nat->Value)(Fs:Nat->Nat->Prop),fb w A->(∀b,A b->b<w.heap.size)->vs.size=as.length ->
  (∀(j:Nat)(a:D),as[j]?=some a->Pl w A (af w (nth gs) gv) (vs.getD j undef) a) ->
  (∀k,aI w A (af w (nth gs) gv) (gv k) (Fs k) (nth gs k))->(∀k,(nth gs k).isObj=false->∀b,¬Fs k b) ->
  (∀i j b,i≠j->Fs i b->¬Fs j b)->(∀k b,Fs k b->b<w.heap.size/\¬A b) ->
  Calls P f vs w fun e w'=>∃v:Value,e=.returned v/\w.heap.size<=w'.heap.size/\(∀b,b<w.heap.size->w'.heap[b]?=w.heap[b]?) /\
   Pl w' (fun b=>A b\/(w.heap.size<=b/\b<w'.heap.size)) (af w (nth gs) gv) v rc/\w'.os=w.os/\w'.tape=w.tape/\cJ w w'
mutual
def D.tight:D->Bool
 | .int _ _=>true
 | .bool _=>true
 | .str _=>true
 | .bc=>true
 | .aB _=>true
 | .dead=>true
 | .sub _ _=>true
 | .av _ _=>true
 | .fn _ l=>lN l
 | .agg l=>lN l
 | .al l=>lN l
 | _=>false
def lN:List D->Bool
 | []=>true
 | x::r=>x.tight&&lN r
end
def D.rN:D->Bool
 | .o x=>x.a7
 | c=>c.tight
def rO:List D->Bool
 | []=>true
 | x::r=>x.rN&&rO r
def D.ie:D->Bool
 | .box l=>rO l
 | .row _ l=>lN l
 | c=>c.rN
def jS:List D->Bool
 | []=>true
 | x::r=>x.ie&&jS r
class KH where
 k:St->Prop
def D.FA:D->D
 | .vw d=>d
 | d=>d
def D.yr:D->D
 | .agg l=>.agg (l.map D.FA)
 | d=>d
theorem WM{w:World}{A:Nat->Prop}{v:Value}{d:D}(h:Rd w A v d):Rd w A v d.FA:=by
 cases d<;>first | exact h | (cases h;assumption)
theorem WN{w:World}{A:Nat->Prop}{v:Value}{d:D}(h:Rd w A v d):Rd w A v d.yr:=by
 cases d with
 | agg l =>
  cases h with
  | agg hs hr =>
   refine .agg (by rw[List.length_map];exact hs) fun j x hx=>?_
   rw[List.getElem?_map,Option.map_eq_some_iff] at hx;obtain⟨y,hy,rfl⟩:=hx;exact WM (hr j y hy)
 | _=>exact h
def xX(g:Option Bool)(res c:D):Prop :=
 match g with
 | none=>c=aQ res\/c=aQ (.vw res)
 | some b=>c=.when b res\/c=.when b res.yr
def lZ[Mode](P:Program)(f:FuncId)(ds:Option (List D))(gt:Bool)(pl:Prop)(g:Option Bool)[K:KH](st:St):Prop :=
 ∃l res c,ds=some l/\lH g (gt=true/\aw P f (l.map .v) res/\(res.a7=true\/pl))/\xX g res c/\K.k (st.push c)
def D.yE(c:D)(p:Path)(y:D):D:=c.setAt p (if bp c p=true then .o y else y)
def qP(x:D)(r:List D)(y:D)(K:St->Prop)(st:St):Prop :=
 match x with
 | .sub k (s::p)=>y.isAgg=false/\bH (fun d=>bF k (s::p) d=false) r/\K ((st.kill (bF k (s::p))).put k (((st.kill (bF k (s::p))).cont k).yE (s::p) y))
 | _=>K st
def fy:List D->List D->(St->Prop)->St->Prop
 | [],[],K,st=>K st
 | x::r,y::ys,K,st=>qP x r y (fy r ys K) st
 | _,_,_,_=>False
def kq[Mode](P:Program)(f:FuncId)(d:D)(ds:Option (List D))(gt:Bool)(pl:Prop)(g:Option Bool)[K:KH](st:St):Prop :=
 g=none/\gt=true/\pl/\∃dl,ds=some dl/\match d with
  | .av k [(0,0)]=>∃l l' res,st.cont k=.box l/\bH dD l/\bH dD l'/\l'.length=l.length/\aw P f (.io (.box l) (.box l')::dl.map .v) res/\K.k (((st.kill (bq k [(0,0)])).put k (.box l')).push (aQ res))
  | .sub k []=>∃x y res,st.cont k=.o x/\aw P f (.io (.o x) (.o y)::dl.map .v) res/\K.k (((st.kill (bF k [])).put k (.o y)).push (aQ res))
  | .sub k (s::p)=>b6 [.sub k (s::p)] (fun l st=>∃x y res,l=[x]/\aw P f (.io (.o x) (.o y)::dl.map .v) res/\fy [.sub k (s::p)] [y] (fun st=>K.k (st.push (aQ res))) st) st
  | .agg l=>b6 l (fun xs st=>∃ys res,aw P f (.io (.o (.agg xs)) (.o (.agg ys))::dl.map .v) res/\fy l ys (fun st=>K.k (st.push (aQ res))) st) st
  | _=>False
def sg(n:Nat)(js:List Nat)(i:Nat):Nat:=(js[i]?).getD (1000+n+i)
def jG(st:St)(σ:Nat->Nat):List Nat->List D->Prop
 | [],[]=>True
 | j::js,g::gs=>st.cont j=g.ay σ/\jG st σ js gs
 | _,_=>False
def jv(st:St)(σ:Nat->Nat)(js:List Nat)(tg:Bool):List D->List D->Prop
 | [],[]=>True
 | d::ds,a::as=>(d=a.ay σ\/(tg=true/\a8 (fun k=>if js.contains k=true then .dead else st.cont k) 4 d=some a))/\jv st σ js tg ds as
 | _,_=>False
def wN:D->D->Bool
 | .o _,.o _=>true
 | _,_=>false
def wM:D->D->Bool
 | .box l,.box l'=>l.length == l'.length
 | _,_=>false
def pP(j:Nat)(g h:D):D->Bool
 | .sub k p=>k == j&&!(p.isEmpty&&wN g h)
 | .av k p=>k == j&&!(p.length == 1&&wM g h)
 | _=>false
def qG:List Nat->List D->List D->D->Bool
 | j::js,g::gs,h::hs,d=>pP j g h d || qG js gs hs d
 | _,_,_,_=>false
def fT(σ:Nat->Nat)(st:St):List Nat->List D->St
 | j::js,h::hs=>fT σ (st.put j (h.ay σ)) js hs
 | _,_=>st
def jL:List D->List D->Prop
 | [],[]=>True
 | g::gs,h::hs=>(g=.dead->h=.dead)/\jL gs hs
 | _,_=>False
def Gc[Mode](P:Program)(f:FuncId)(ds:List D)(st:St)(K:D->St->Prop):Prop :=
 ∃(js:List Nat)(tg:Bool)(as gs:List D)(Q:D->List D->Prop),bK P f as gs Q/\(js.Nodup/\js.all (fun j=>decide (j<1000+st.n))=true)/\jG st (sg st.n js) js gs/\jv st (sg st.n js) js tg ds as /\
  ∀rc gs',Q rc gs'->jL gs gs'/\(tg=true->rc.ie=true/\jS gs'=true)/\K (rc.ay (sg st.n js)) (fT (sg st.n js) (st.kill (qG js gs gs')) js gs')
def V5[Mode](P:Program)(f:FuncId)(ds:List D)(st:St)(K:D->Prop):Prop :=
 ∃l res,eC (a8 st.cont 4) ds=some l/\eQ P f=true/\aw P f ((stripL l).map .v) res/\res.a7=true/\K (aQ res)
def lq[Mode](P:Program)(f:FuncId)(ds:List D)(gt:Bool)(gd:Bool)[K:KH](st:St):Prop :=
 gt=true/\((Gc P f ds st fun c st=>(gd=true->c.cn=true)/\K.k (st.push (if gd=true then .when true c else c)))\/(gd=false/\V5 P f ds st fun c=>K.k (st.push c)))
def kZ[Mode](P:Program)(x:D)(ds:List D)(gt:Bool)(gd:Bool)[KH](st:St):Prop :=
 match x with
 | .fn f caps=>lq P f (ds++caps) gt gd st
 | _=>False
def jy[Mode](P:Program)(x:D)(ds:List D)(gt:Bool)(g:Option Bool)[K:KH](st:St):Prop :=
 match g with
 | none=>kZ P x ds gt false st
 | some true=>kZ P x ds gt true st
 | some false=>K.k (st.push (.when false (.bool false)))
def eY(rd:X->D):List X->List D
 | []=>[]
 | x::r=>(rd x).core::eY rd r
theorem V6[Mode]{P:Program}{f:FuncId}{ds l xs:List D}{K:St->Prop}{st:St}{res:D}(hl:eC (a8 st.cont 4) ds=some l)(hx:stripL l=xs)(hb:eQ P f=true)(hR:aw P f (xs.map .v) res)(hn:res.a7=true)(hK:K (st.push (aQ res))):@lq _ P f ds true false ⟨K⟩ st :=
 ⟨rfl,.inr ⟨rfl,l,res,hl,hb,hx▸hR,hn,hK⟩⟩
theorem PI[Mode]{P:Program}{f:FuncId}{ds:List D}{K:St->Prop}{st:St}{as gs gs':List D}{rc:D}(js:List Nat)(tg:Bool)(hR:fK P f as gs rc gs')(hn:js.Nodup/\js.all (fun j=>decide (j<1000+st.n))=true)(hl:jG st (sg st.n js) js gs)(ha:jv st (sg st.n js) js tg ds as)
  (hw:jL gs gs') (ht:tg=true->rc.ie=true/\jS gs'=true) (hK:K ((fT (sg st.n js) (st.kill (qG js gs gs')) js gs').push (rc.ay (sg st.n js)))):@lq _ P f ds true false ⟨K⟩ st :=
 ⟨rfl,.inl ⟨js,tg,as,gs,_,hR,hn,hl,ha,fun _ _ h=>by obtain⟨rfl,rfl⟩:=h;exact⟨hw,ht,fun h=>(by cases h),hK⟩⟩⟩
theorem Pq[Mode]{P:Program}{f:FuncId}{ds:List D}{K:St->Prop}{st:St}{as gs:List D}{Q:D->List D->Prop}(js:List Nat)(tg:Bool)(hR:bK P f as gs Q)(hn:js.Nodup/\js.all (fun j=>decide (j<1000+st.n))=true)(hl:jG st (sg st.n js) js gs)(ha:jv st (sg st.n js) js tg ds as)
  (hK:∀rc gs',Q rc gs'->jL gs gs'/\(tg=true->rc.ie=true/\jS gs'=true)/\K ((fT (sg st.n js) (st.kill (qG js gs gs')) js gs').push (rc.ay (sg st.n js)))):@lq _ P f ds true false ⟨K⟩ st :=
 ⟨rfl,.inl ⟨js,tg,as,gs,_,hR,hn,hl,ha,fun _ _ h=>⟨(hK _ _ h).1,(hK _ _ h).2.1,fun h=>(by cases h),(hK _ _ h).2.2⟩⟩⟩
def sj(js:List Nat)(i:Nat):Nat:=(js[i]?).getD 0
def iR(n:Nat):D->Prop
 | .sub k _=>k<n
 | .av k _=>k<n
 | _=>True
def qZ(ob:Nat->D)(σ:Nat->Nat):List Nat->List D->Prop
 | [],[]=>True
 | j::js,g::gs=>(j<1000/\ob j=g.ay σ)/\qZ ob σ js gs
 | _,_=>False
def uI(σ:Nat->Nat):List D->List D->Prop
 | [],[]=>True
 | d::ds,a::as=>d=a.ay σ/\uI σ ds as
 | _,_=>False
def oN[Mode](P:Program)(f:FuncId)(ob:Nat->D)(ds:List D)(c:D):Prop :=
 ∃(js:List Nat)(as gs:List D)(rc:D),DZ P f as gs rc/\js.Nodup/\qZ ob (sj js) js gs/\uI (sj js) ds as/\(bH (iR js.length) as/\bH (iR js.length) gs/\rc.refs (iR js.length))/\rc.cn=true/\c=rc.ay (sj js)
def kY(d:D)(K:D->St->Prop)(st:St):Prop :=
 match d with
 | .av j [(0,0)]=>((st.kill (aV j)).cont j).isObj=true/\(st.cont j).iw=false/\K ((st.kill (aV j)).cont j) ((st.kill (aV j)).put j .dead)
 | _=>False
def nr(j:Nat)(x:D)(K:St->Prop)(st:St):Prop :=
 aD x (fun d st=>K (((st.kill (aV j)).put j (aQ d)).push .dead)) st
def D.oi:D->Bool
 | .o _ | .box _ | .row _ _ | .when _ _ | .dead=>false
 | _=>true
def qt(j:Nat)(x:D)(K:St->Prop)(st:St):Prop :=
 x.refs (cA j)/\x.oi=true/\K (((st.kill (aV j)).put j x).push .dead)
def jn:Path->Path
 | []=>[]
 | [_]=>[]
 | s::t::r=>s::jn (t::r)
def mn:Path->Bool
 | []=>false
 | [s]=>s.1 == 0&&s.2 == 0
 | _::t::r=>mn (t::r)
def D.sO:D->Bool
 | .ptr _=>true
 | _=>false
def lT(j:Nat)(x:D)(K:St->Prop)(st:St):Prop :=
 match x with
 | .av k q=>mn q=true/\eH k (jn q) (fun d st=>d.sO=true/\K (((st.kill (aV j)).put j (aQ d)).push .dead)) st
 | x=>nr j x K st
theorem GX:∀{q:Path},mn q=true->q=jn q++[(0,0)]
 | [],h=>by cases h
 | [(a,b)],h=>by
  simp only[mn,Bool.and_eq_true,beq_iff_eq] at h;rw[h.1,h.2];rfl
 | s::t::r,h=>by
  have:=GX (q:=t::r) h;show s::t::r=s::(jn (t::r)++[(0,0)]);rw[<-this]
def A3(k:Nat)(p:Path):D->Prop
 | .sub j q=>j≠k\/(q≠[]/\gT q p=false)
 | _=>True
def dw(c:D)(p:Path):Nat->List D->D
 | _,[]=>c
 | j,y::r=>dw (c.setAt (bump p j) (if bp c (bump p j)=true then aQ y else y)) p (j+1) r
def mC(c:D)(p:Path):Nat->List D->Prop
 | _,[]=>True
 | j,y::r=>c.aZ (bump p j)/\y.isAgg=false/\mC c p (j+1) r
def D.qn:D->Bool
 | .av _ _=>true
 | _=>false
def qe(k:Nat)(p:Path)(x:D)(K:St->Prop)(st:St):Prop :=
 match x with
 | .av j q=>mn q=true/\j≠k/\eH j (jn q) (fun d st=>d.sO=true/\mC ((st.kill (bq k p)).cont k) p 0 [d] /\
    K (((st.kill (bq k p)).put k (dw ((st.kill (bq k p)).cont k) p 0 [d])).push .dead)) st
 | _=>False
def mX(b:Bool)(n k:Nat)(p:Path)(x:D)(K:St->Prop)(st:St):Prop :=
 match b with
 | true=>n=1/\qe k p x K st
 | false=>cN x.cellsOf fun l=>l.length=n/\bH (A3 k p) l/\b6 l (fun l' st=>mC ((st.kill (bq k p)).cont k) p 0 l' /\
    K (((st.kill (bq k p)).put k (dw ((st.kill (bq k p)).cont k) p 0 l')).push .dead)) st
def kQ(n:Nat)(a x:D)(K:St->Prop)(st:St):Prop :=
 match a with
 | .av k p=>mX x.qn n k p x K st
 | _=>False
def D.ia:D->Bool
 | .int _ _ | .bool _ | .str _ | .bc | .slice _ _ | .ptr _ | .aB _ | .sub _ _ | .av _ _=>true
 | _=>false
def p5:List D->Bool
 | []=>true
 | x::r=>x.ia&&p5 r
def D.su:D->Option (List D)
 | .box l=>some l
 | _=>none
def pk:Path->Bool
 | []=>false
 | [s]=>s.1 == 0&&s.2 == 0
 | _::_::_=>false
theorem Qn:∀{p:Path},pk p=true->p=[(0,0)]
 | [],h=>by cases h
 | [(a,b)],h=>by
  simp only[pk,Bool.and_eq_true,beq_iff_eq] at h;rw[h.1,h.2]
 | _::_::_,h=>by cases h
def rL(b:Bool)(n k:Nat)(p:Path)(x:D)(K:St->Prop)(st:St):Prop :=
 match b with
 | true=>cN (st.cont k).su fun l0=>l0.length=n/\cN x.cellsOf fun l=>l.length=n/\p5 l=true/\bH (fun d=>bq k [(0,0)] d=false) l /\
   K (((st.kill (bq k [(0,0)])).put k (.box l)).push .dead)
 | false=>mX x.qn n k p x K st
def oD(n:Nat)(a x:D)(K:St->Prop)(st:St):Prop :=
 match a with
 | .av k p=>rL (pk p) n k p x K st
 | _=>False
def D.iO:D->Option (List D)
 | .slice _ l=>some l
 | .aB _=>some []
 | _=>none
def mW(st:St)(x:D):Option (List D) :=
 match x with
 | .sub k p=>(lk st.cont k).bind fun c=>(c.bm p).iO
 | x=>x.iO
def D.dj(y:D)(M:List D):D :=
 match y with
 | .slice z L=>.slice z (L++M)
 | y=>y
def D.row?:D->Option (List D)
 | .row _ l=>some l
 | _=>none
def isRow(st:St)(x:D):Option (List D) :=
 match x with
 | .sub k []=>(st.cont k).row?
 | _=>none
def il(s:D)(K:D->St->Prop)(st:St):Prop :=
 match s with
 | .sub k p=>eH k p K st
 | .aB z=>K (.slice z []) st
 | _=>False
def uH(st:St)(x:D):Option (List D ⊕ List D) :=
 match isRow st x with
 | some l=>some (.inl l)
 | none=>(mW st x).bind fun M=>some (.inr M)
def s8(sz:Nat):List D->Prop
 | []=>True
 | e::r=>e.cells.length=sz/\s8 sz r
def D.qV:D->Bool
 | .slice _ _=>true
 | _=>false
def D.gX:D->Bool
 | .int _ _ | .bool _ | .str _ | .slice _ _ | .bc | .ptr _ | .mp _ _ | .bJ | .bf _ _ | .aY=>true
 | _=>false
def pI:List D->Bool
 | []=>true
 | x::r=>x.gX&&pI r
def D.vN(sz:Nat)(e:D):Bool:=decide (e.cells.length=sz)&&pI e.cells
def D.ri:D->Bool
 | .slice z _=>z.qV || z.isAgg
 | _=>false
def D.zq:D->Bool
 | .o x=>x.ri
 | _=>false
def pC(st:St)(x:D):Option (Nat×Path) :=
 match x with
 | .sub k []=>if(st.cont k).zq=true then some (k,[]) else none
 | .sub k (q::p)=>if((st.cont k).bm (q::p)).ri=true then some (k,q::p) else none
 | _=>none
def oR(sz bytes:Nat)(s x:D)(K:St->Prop)(st:St):Prop :=
 match pC st x with
 | some k=>x.refs (ox [s])/\eH k.1 k.2 (fun y st=>y.gR=sz/\cN y.iO fun M=>(∀e∈M,e.vN sz=true) /\
   il s (fun y st=>y.gR=sz/\cN y.cm fun m=>(m+M.length)*bytes<=140737488355328/\K (st.push (.o (y.dj M)))) st) st
 | none=>cN (uH st x) fun src=>match src with
 | .inl l=>s8 sz l/\bH (ox [s]) l/\b6 l (fun M st=>il s (fun y st=>y.gR=sz/\cN y.cm fun m=>(m+M.length)*bytes<=140737488355328/\K (st.push (.o (y.dj M)))) st) st
 | .inr M=>(∀e∈M,e.b8=true)/\sz=1/\x.refs (ox [s])/\il s (fun y st=>y.gR=sz/\cN y.cm fun m=>(m+M.length)*bytes<=140737488355328/\K (st.push (.o (y.dj M)))) st
def fY:List D->List D->(List D->St->Prop)->St->Prop
 | done,[],K,st=>K done st
 | done,.sub k p::r,K,st=>bH (nq k p) (done++r)/\eH k p (fun x st=>fY (done++[aQ x]) r K st) st
 | done,x::r,K,st=>x.pc=true/\fY (done++[x]) r K st
def qy(n:Nat)(x:D)(K:St->Prop)(st:St):Prop :=
 match x.cellsOf with
 | none=>False
 | some l=>(l.length=n/\0<n)/\fY [] l (fun l' st=>K (st.push (.box l'))) st
def qw(z x:D)(K:St->Prop)(st:St):Prop :=
 match x.cellsOf with
 | none=>False
 | some l=>l.length=z.cells.length/\b6 l (fun l' st=>K (st.push (.o (.slice z [.agg l'])))) st
def qF(d s:D)[K:KH](st:St):Prop :=
 match d with
 | .sub k (q::p)=>∃M,mW st s=some M/\(∀e∈M,e.b8=true)/\b6 [.sub k (q::p)] (fun l st=>∃z L,l=[.slice z L]/\(z.cells.length=1/\∀e∈L,e.b8=true) /\
   fy [.sub k (q::p)] [.slice z (M.take L.length++L.drop M.length)] (fun st=>K.k (st.push (.int .i64 (min M.length L.length:Nat)))) st) st
 | _=>False
def pA(kk:Nat)(m k v:D)[K:KH](st:St):Prop :=
 k.kz kk=true/\v.b8=true/\match m with
 | .sub j []=>cN ((st.cont j).o?.bind D.kE) fun e=>cN (fQ k e.1) fun r=>e.1.length<maxLen/\K.k ((st.put j (.o (.mp (cM k v e.1 e.2 r).1 (cM k v e.1 e.2 r).2))).push .dead)
 | .sub j (s::p)=>b6 [.sub j (s::p)] (fun l st=>cN ((l.head?).bind D.kE) fun e=>cN (fQ k e.1) fun r=>e.1.length<maxLen /\
   fy [.sub j (s::p)] [.mp (cM k v e.1 e.2 r).1 (cM k v e.1 e.2 r).2] (fun st=>K.k (st.push .dead)) st) st
 | _=>False
def cH(s:List UInt8)(p:Nat):Nat×Nat:=Utf8.decode ⟨s.toArray⟩ p
def D.sP:D->Option (List UInt8×Nat)
 | .o (.bL s p)=>some (s,p)
 | _=>none
def pH(j:Nat)[K:KH](st:St):Prop :=
 cN (st.cont j).sP fun e=>(e.2<e.1.length->K.k ((st.put j (.o (.bL e.1 (e.2+(cH e.1 e.2).2)))).push (.al [.bool true,.int .i64 e.2,.int .i32 (cH e.1 e.2).1]))) /\
  (e.1.length<=e.2->K.k (st.push (.al [.bool false])))
def sE(kb:Nat):Nat->List D->Prop
 | _,[]=>True
 | j,d::r=>d.refs (cA kb)/\(cu j d).core.refs (cA kb)/\sE kb (j+1) r
def xF(sz bytes b s:Nat)(K:St->Prop)(st:St):Prop :=
 sz=1/\cN (st.cont (1000+s)).row? fun l=>jg l=true/\cN (st.cont (1000+b)).o? fun y=>y.gR=1/\cN y.cm fun m=>(m+l.length)*bytes<=140737488355328 /\
  sE (1000+b) 0 st.env/\bH (cA (1000+b)) st.tmp/\K ((st.put (1000+b) .dead).push (.o (y.dj l)))
def bh[Mode](P:Program)(k:Kp)(g:Option Bool)(K:St->Prop)(st:St):Prop :=
 match k with
 | .bX j x=>g=none/\(st.rd x).gate=true/\nr j (st.rd x).core K st
 | .jX j x=>g=none/\(st.rd x).gate=true/\qt j (st.rd x).core K st
 | .call f xs=>@lZ _ P f (iv st.cont st.rd xs) (dO st.rd xs) (kM st.rd xs) g ⟨K⟩ st
 | .st a x=>g=none/\((st.rd a).gate&&(st.rd x).gate)=true/\kQ 1 (st.rd a).core (st.rd x).core K st
 | .bG n a x=>g=none/\((st.rd a).gate&&(st.rd x).gate)=true/\kQ n (st.rd a).core (st.rd x).core K st
 | .jk n a x=>g=none/\((st.rd a).gate&&(st.rd x).gate)=true/\oD n (st.rd a).core (st.rd x).core K st
 | .app sz bytes s x=>g=none/\((st.rd s).gate&&(st.rd x).gate)=true/\oR sz bytes (st.rd s).core (st.rd x).core K st
 | .iN f (x::r)=>@kq _ P f (st.rd x).core (iv st.cont st.rd r) (dO st.rd (x::r)) (kM st.rd r) g ⟨K⟩ st
 | .iN _ []=>False
 | .dyn x xs=>@jy _ P (st.rd x).core (eY st.rd xs) (dO st.rd (x::xs)) g ⟨K⟩ st
 | .lX n x=>g=none/\(st.rd x).gate=true/\qy n (st.rd x).core K st
 | .eJ sz bytes b s=>g=none/\xF sz bytes b s K st
 | .mu kk m k v=>g=none/\((st.rd m).gate&&(st.rd k).gate&&(st.rd v).gate)=true/\@pA kk (st.rd m).core (st.rd k).core (st.rd v).core ⟨K⟩ st
 | .mB j=>g=none/\@pH j ⟨K⟩ st
 | .fq x=>fE (bY (.fq x) st.rd) g K st
 | .gB x=>fE (bY (.gB x) st.rd) g K st
 | .box n x=>fE (bY (.box n x) st.rd) g K st
 | .gh n x=>fE (bY (.gh n x) st.rd) g K st
 | .cB zs=>fE (bY (.cB zs) st.rd) g K st
 | .ah z b l c=>fE (bY (.ah z b l c) st.rd) g K st
 | .ch z n ps=>fE (bY (.ch z n ps) st.rd) g K st
 | .gF=>fE (bY .gF st.rd) g K st
 | .jZ z x=>g=none/\(st.rd x).gate=true/\qw z (st.rd x).core K st
 | .jY j x=>g=none/\(st.rd x).gate=true/\lT j (st.rd x).core K st
 | k=>gZ (bC k st.rd st.cont) g K st
def D.bool?:D->Option Bool
 | .bool b=>some b
 | _=>none
def gd(c:D)(want:Bool):Option Bool:=c.core.bool?.bind fun b=>some (c.gate&&(if want then b else !b))
def kn(v:Option Bool)(K:Bool->Prop):Prop :=
 match v with
 | some b=>K b
 | none=>False
def ca[Mode](P:Program)(K:St->Prop):List bd->St->Prop
 | [],st=>K st
 | ⟨none,k⟩::r,st=>bh P k none (ca P K r) st
 | ⟨some (j,want),k⟩::r,st=>kn (gd (st.rd (.t j)) want) fun b=>bh P k (some b) (ca P K r) st
structure Ex where
 ex:Nat->List D->Prop
 ret:List D->Prop
def jx(v:D)(A B:Prop):Prop :=
 match v with
 | .bool b=>(b=true->A)/\(b=false->B)
 | _=>False
def c7:List Nat->St->St
 | [],st=>st
 | j::r,st=>c7 r ((st.kill (aV j)).put j .dead)
def kc:List (Nat×Nat)->St->St
 | [],st=>st
 | (j,i)::r,st=>kc r ((((st.kill (aV j)).kill (aV (1000+i))).put j ((((st.kill (aV j)).kill (aV (1000+i)))).cont (1000+i))).put (1000+i) .dead)
def Ac(i k:Nat)(x:Option D)(st:St):St :=
 match x with
 | some x=>(((st.kill (aV k)).put k .dead).kill (aV (1000+i))).put (1000+i) (aQ x)
 | none=>st
def kK(i:Nat)(c:D)(st:St):St :=
 match c with
 | .sub k (s::p)=>if 1000<=k then(((st.kill (bF k (s::p))).put k (((st.kill (bF k (s::p))).cont k).hole (s::p))).kill (aV (1000+i))).put (1000+i) (aQ ((st.cont k).bm (s::p))) else st
 | .sub k []=>if 1000<=k then Ac i k (st.cont k).jl st else st
 | _=>st
def jb:List (Nat×Nat)->St->St
 | [],st=>st
 | (_,i)::r,st=>jb r (kK i (st.cont (1000+i)) st)
def fin(post:List (Nat×Nat))(st:St):List D:=((kc post (jb post st)).kill fH).env
class LH where
 body:(List D->Prop)->Ex->List D->Prop
 E:Ex
def vF[h:LH](env:List D):Prop :=
 ∃(js:List Nat)(α:Type)(S:α->List D)(I:α->Prop)(μ:α->Nat)(x0:α),I x0/\(c7 js ⟨env,0,[]⟩).env=S x0/\∀x,I x->h.body (fun env'=>∃x',I x'/\μ x'<μ x/\(c7 js ⟨env',0,[]⟩).env=S x') h.E (S x)
def fW(env:List D):List (Nat×D)->List D
 | []=>env
 | (j,c)::r=>fW (eP env j c) r
theorem aE{body:(List D->Prop)->Ex->List D->Prop}{E:Ex}{env:List D}{α:Type}(js:List Nat)(f:α->List (Nat×D))(I:α->Prop)(μ:α->Nat)(x0:α){env0:List D}(h0:(c7 js ⟨env,0,[]⟩).env=env0)
  (hI:I x0) (he:env0=fW env0 (f x0)) (h:∀x,I x->body (fun env'=>∃x',I x'/\μ x'<μ x/\(c7 js ⟨env',0,[]⟩).env=fW env0 (f x')) E (fW env0 (f x))):@vF ⟨body,E⟩ env :=
 ⟨js,α,fun x=>fW env0 (f x),I,μ,x0,hI,by rw[h0];exact he,h⟩
theorem an[Mode]{P:Program}{f:FuncId}{pl:Prop}{K:St->Prop}{st:St}{as:List Arg}{ds:List D}{res:D}(hR:aw P f as res)(ha:as=ds.map .v)(hn:res.a7=true\/pl)(hK:K (st.push (aQ res))):@lZ _ P f (some ds) true pl none ⟨K⟩ st :=
 ⟨ds,res,_,rfl,⟨rfl,ha▸hR,hn⟩,.inl rfl,hK⟩
theorem uQ[Mode]{P:Program}{f:FuncId}{pl:Prop}{K:St->Prop}{st:St}{as:List Arg}{ds:List D}{res:D}(hR:aw P f as res)(ha:as=ds.map .v)(hn:res.a7=true\/pl)(hK:K (st.push (aQ (.vw res)))):@lZ _ P f (some ds) true pl none ⟨K⟩ st :=
 ⟨ds,res,_,rfl,⟨rfl,ha▸hR,hn⟩,.inr rfl,hK⟩
theorem bu[Mode]{P:Program}{f:FuncId}{gt:Bool}{pl:Prop}{K:St->Prop}{st:St}{as:List Arg}{ds:List D}{res:D}{b:Bool}(hR:b=true->aw P f as res)(ha:as=ds.map .v)(hgt:b=true->gt=true)(hn:res.a7=true\/pl)(hK:K (st.push (.when b res))) :
  @lZ _ P f (some ds) gt pl (some b) ⟨K⟩ st:=⟨ds,res,_,rfl,fun hb=>⟨hgt hb,ha▸hR hb,hn⟩,.inl rfl,hK⟩
theorem yV[Mode]{P:Program}{f:FuncId}{pl:Prop}{K:St->Prop}{st:St}{as:List Arg}{ds:List D}{x y res:D}{k:Nat}(hR:aw P f as res)(ha:as=.io (.o x) (.o y)::ds.map .v)(hpl:pl)(hc:st.cont k=.o x)
  (hK:K (((st.kill (bF k [])).put k (.o y)).push (aQ res))):@kq _ P f (.sub k []) (some ds) true pl none ⟨K⟩ st :=
 ⟨rfl,rfl,hpl,ds,rfl,x,y,res,hc,ha▸hR,hK⟩
theorem lv[Mode]{P:Program}{f:FuncId}{pl:Prop}{K:St->Prop}{st:St}{as:List Arg}{ds:List D}{res:D}{k:Nat}{s:Nat×Nat}{p:Path}(hR:aw P f as res)(hpl:pl)
  (h:b6 [.sub k (s::p)] (fun l st=>∃x y,l=[x]/\as=.io (.o x) (.o y)::ds.map .v/\fy [.sub k (s::p)] [y] (fun st=>K (st.push (aQ res))) st) st):@kq _ P f (.sub k (s::p)) (some ds) true pl none ⟨K⟩ st :=
 ⟨rfl,rfl,hpl,ds,rfl,r9 _ (fun _ _ ⟨x,y,h1,h2,h3⟩=>⟨x,y,res,h1,h2▸hR,h3⟩) h⟩
theorem Qd[Mode]{P:Program}{f:FuncId}{pl:Prop}{K:St->Prop}{st:St}{as:List Arg}{ds l:List D}{res:D}(hR:aw P f as res)(hpl:pl)
  (h:b6 l (fun xs st=>∃ys,as=.io (.o (.agg xs)) (.o (.agg ys))::ds.map .v/\fy l ys (fun st=>K (st.push (aQ res))) st) st):@kq _ P f (.agg l) (some ds) true pl none ⟨K⟩ st :=
 ⟨rfl,rfl,hpl,ds,rfl,r9 _ (fun _ _ ⟨ys,h2,h3⟩=>⟨ys,res,h2▸hR,h3⟩) h⟩
def rT[Mode](P:Program):RT->(List D->Prop)->St->Prop
 | .leaf l post,K,st=>ca P (fun st=>K (fin post st)) l st
 | .two _ _ _ a b,K,st=>rT P a K st/\rT P b K st
def bA[Mode](P:Program):C->(List D->Prop)->Ex->List D->Prop
 | .skip,K,_,env=>K env
 | .ops pre l post,K,_,env=>ca P (fun st=>K (fin post st)) l (c7 pre ⟨env,0,[]⟩)
 | .eF pre l post x a b,K,E,env=>ca P (fun st=>(st.rd x).gate=true/\jx (st.rd x).core (bA P a K E (fin post st)) (bA P b K E (fin post st))) l (c7 pre ⟨env,0,[]⟩)
 | .wg pre l post x a b c,K,E,env=>ca P (fun st=>(st.rd x).gate=true/\jx (st.rd x).core (bA P a (bA P c K E) E (fin post st)) (bA P b (bA P c K E) E (fin post st))) l (c7 pre ⟨env,0,[]⟩)
 | .seq a b,K,E,env=>bA P a (bA P b K E) E env
 | .cond x a b,K,E,env=>jx ((⟨env,0,[]⟩:St).rd x) (bA P a K E env) (bA P b K E env)
 | .block id c,K,E,env=>bA P c K ⟨fun i s=>if i=id then K s else E.ex i s,E.ret⟩ env
 | .loop c,_,E,env=>@vF ⟨bA P c,E⟩ env
 | .exit id,_,E,env=>E.ex id env
 | .ret,_,E,env=>E.ret env
 | .alt pre t,K,_,env=>rT P t K (c7 pre ⟨env,0,[]⟩)
theorem aa8[Mode]{P:Program}{K:St->Prop}{st:St}:ca P K (oL []) st=K st:=rfl
theorem aa7[Mode]{P:Program}{K:St->Prop}{k:Kp}{r:List Kp}{st:St}:ca P K (oL (k::r)) st=bh P k none (ca P K (oL r)) st:=rfl
theorem aa6[Mode]{P:Program}{K:List D->Prop}{E:Ex}{l:List Kp}{env:List D}:bA P (.u l) K E env=ca P (fun st=>K (fin [] st)) (oL l) (c7 [] ⟨env,0,[]⟩):=rfl
theorem VW[Mode]{P:Program}{K:St->Prop}{i:Nat}{g:Option Bool}{st:St}:bh P (.m i) g K st=bh P (.mv (.v i)) g K st:=rfl
theorem VX[Mode]{P:Program}{K:St->Prop}{i:Nat}{g:Option Bool}{st:St}:bh P (.n i) g K st=bh P (.mv (.t i)) g K st:=rfl
theorem VV[Mode]{P:Program}{K:St->Prop}{j i:Nat}{g:Option Bool}{st:St}:bh P (.a j i) g K st=bh P (.bX j (.t i)) g K st:=rfl
end Go.D3
namespace Go.D3
open Go
def ae{α:Type}(f:α->D)(d:α)(l:List α):D:=.slice (f d) (l.map f)
abbrev ints(l:List Int):D:=ae (D.int .i64) 0 l
abbrev bytes(l:List Int):D:=ae (D.int .u8) 0 l
abbrev lW(l:List Bool):D:=ae D.bool false l
abbrev dR(l:List (List UInt8)):D:=ae D.str [] l
abbrev aF(l:List (List Int)):D:=ae ints [] l
abbrev uO(l:List (List Bool)):D:=ae lW [] l
abbrev wV(l:List (List (List UInt8))):D:=ae dR [] l
abbrev pd(l:List (List (List Int))):D:=ae aF [] l
abbrev Gz(l:List (List (List (List Int)))):D:=ae pd [] l
theorem getD_map'{α β:Type}(f:α->β)(d:α)(l:List α)(i:Nat):(l.map f).getD i (f d)=f (l.getD i d):=by
 rw[List.getD_eq_getElem?_getD,List.getD_eq_getElem?_getD,List.getElem?_map];cases l[i]?<;>rfl
section ae
variable{α:Type}{f:α->D}{d:α}{l:List α}
theorem Hm:(ae f d l).cm=some l.length:=by simp[ae,D.cm]
theorem Hl{i:Nat}:(ae f d l).jA i=(f (l.getD i d)).cells:=by simp only[ae,D.jA,getD_map']
theorem RX{lo:Option X}:oH (ae f d l) lo=none:=rfl
theorem Re:(ae f d l).cells=[ae f d l]:=rfl
theorem Rf:(ae f d l).cellsOf=some [ae f d l]:=rfl
theorem Rl:(ae f d l).core=ae f d l:=by simp[ae,D.core]
theorem Rq:(ae f d l).gate=true:=rfl
theorem R0:(ae f d l).un=ae f d l:=rfl
theorem RH{k:Nat}:cu k (ae f d l)=ae f d l:=rfl
theorem Rp{k:Nat}{p:Path}:da k p (ae f d l)=.sub k p:=rfl
theorem Ry{i o:Nat}:(ae f d l).dZ i o=(f (l.getD i d)).cells.getD o .dead:=by simp only[ae,D.dZ,getD_map']
theorem Hq{i o:Nat}{y:D}:(ae f d l).dx i o y=.slice (f d) ((l.map f).set i (dQ (f (l.getD i d)) o y)):=by simp only[ae,D.dx,getD_map']
theorem vG{i:Nat}{x:α}:D.slice (f d) ((l.map f).set i (f x))=ae f d (l.set i x):=by simp[ae,List.map_set]
theorem Rs{i o:Nat}:(ae f d l).fg i o=(i<l.length/\o<(f d).cells.length):=by simp[ae,D.fg]
theorem RE{i:Nat}{y:D}:(ae f d l).iz i y=kI (f (l.getD i d)) y:=by simp only[ae,D.iz,getD_map']
theorem Rb{M:List α}:(ae f d l).dj (M.map f)=ae f d (l++M):=by simp[ae,D.dj]
theorem kD{x:α}:(ae f d l).dj [f x]=ae f d (l++[x]):=by simp[ae,D.dj]
theorem Rc:(ae f d l).dj []=ae f d l:=by simp[ae,D.dj]
theorem Ro:(ae f d l).gR=(f d).cells.length:=rfl
theorem Ru:(ae f d l).isAgg=false:=rfl
theorem Rv:(ae f d l).isObj=false:=rfl
theorem RF:(ae f d l).cn=true:=rfl
theorem RO:(ae f d l).oi=true:=rfl
theorem RU:(ae f d l).b8=false:=rfl
theorem Rz{q:D->Bool}:(ae f d l).kill q=ae f d l:=rfl
theorem RP{σ:Nat->Nat}:(ae f d l).ay σ=ae f d l:=rfl
theorem RZ:(ae f d l).tight=false:=rfl
theorem Ho{Q:D->Prop}:(ae f d l).refs Q=True:=rfl
theorem Rj:aQ (ae f d l)=.o (ae f d l):=rfl
theorem RR:(ae f d l).ia=true:=rfl
theorem Ra:(ae f d l).qn=false:=rfl
theorem RJ:(ae f d l).fk=some (.vw (ae f d l)):=rfl
theorem RL:(ae f d l).rr=some (.vw (ae f d l)):=rfl
theorem Rk:aQ (.vw (ae f d l))=ae f d l:=rfl
theorem RI{i:Nat}{st:St}:kK i (ae f d l) st=st:=rfl
theorem Q9{K:D->St->Prop}{st:St}:aD (ae f d l) K st=K (.vw (ae f d l)) st:=rfl
theorem Rm{a b:Nat}:(ae f d l).cut a b=some (ae f d ((l.take b).drop a)):=by simp[ae,D.cut,List.map_take,List.map_drop]
theorem RA{ob:Nat->D}:lB ob (ae f d l)=some (True,.int .i64 l.length):=by simp[ae,lB,D.cm,one]
theorem Rt{ob:Nat->D}{sz:Nat}{k:IntKind}{n:Int}:nP sz ob (ae f d l) (.int k n)=some (0<=n/\n<l.length/\(f (l.getD n.toNat d)).cells.length=sz,.ptr (f (l.getD n.toNat d)).cells):=by
 have h:nP sz ob (ae f d l) (.int k n)=(ae f d l).cm.bind fun m=>some (0<=n/\n<m/\((ae f d l).jA n.toNat).length=sz,.ptr ((ae f d l).jA n.toNat)):=rfl
 rw[h,Hm,Hl];rfl
theorem RW{st:St}:mW st (ae f d l)=some (l.map f):=rfl
theorem Rx:(ae f d l).qV=true:=rfl
theorem RC:(ae f d l).ri=((f d).qV || (f d).isAgg):=rfl
theorem RG:(ae f d l).gX=true:=rfl
theorem RB{st:St}:pC st (ae f d l)=none:=rfl
theorem Rw{st:St}:isRow st (ae f d l)=none:=rfl
theorem Rn:(ae f d l).iO=some (l.map f):=rfl
theorem RQ:(ae f d l).row?=none:=rfl
theorem Hn:(ae f d l).pc=true:=by simp[ae,D.pc]
theorem RN:(ae f d l).fS=some (ae f d l):=rfl
theorem RD(h:∀x,(f x).a7=true):(ae f d l).a7=true:=by
 simp only[ae,D.a7];induction l with
 | nil=>rfl
 | cons a l ih=>simp[db,h,ih]
theorem Rr{ob:Nat->D}{n:Nat}:a8 ob (n+1) (ae f d l)=some (ae f d l):=rfl
end ae
theorem aae:D.slice (.int .i64 0) []=ints []:=rfl
theorem aad:D.slice (.int .u8 0) []=bytes []:=rfl
theorem aab:D.slice (.bool false) []=lW []:=rfl
theorem aai:D.slice (.str []) []=dR []:=rfl
theorem Xm{n:Nat}:D.slice (.int .i64 0) (List.replicate n (.int .i64 0))=ints (List.replicate n 0):=by simp[ints,ae]
theorem Xl{n:Nat}:D.slice (.int .u8 0) (List.replicate n (.int .u8 0))=bytes (List.replicate n 0):=by simp[bytes,ae]
theorem Xj{n:Nat}:D.slice (.bool false) (List.replicate n (.bool false))=lW (List.replicate n false):=by simp[lW,ae]
theorem Xq{n:Nat}:D.slice (.str []) (List.replicate n (.str []))=dR (List.replicate n []):=by simp[dR,ae]
theorem Xn{n:Nat}:D.slice (ints []) (List.replicate n (ints []))=aF (List.replicate n []):=by simp[aF,ae]
theorem Xk{n:Nat}:D.slice (lW []) (List.replicate n (lW []))=uO (List.replicate n []):=by simp[uO,ae]
theorem Xr{n:Nat}:D.slice (dR []) (List.replicate n (dR []))=wV (List.replicate n []):=by simp[wV,ae]
theorem Xo{n:Nat}:D.slice (aF []) (List.replicate n (aF []))=pd (List.replicate n []):=by simp[pd,ae]
theorem aaf:D.slice (ints []) []=aF []:=rfl
theorem aac:D.slice (lW []) []=uO []:=rfl
theorem aaj:D.slice (dR []) []=wV []:=rfl
theorem aag:D.slice (aF []) []=pd []:=rfl
theorem aah:D.slice (pd []) []=Gz []:=rfl
def mK{α β:Type}(f:α->D)(l:List (α×β)):List D:=l.map fun e=>f e.1
def mV{α β:Type}(g:β->D)(l:List (α×β)):List D:=l.map fun e=>g e.2
def bI{α β:Type}(f:α->D)(g:β->D)(l:List (α×β)):D:=.mp (mK f l) (mV g l)
section maps
variable{α β:Type}{f:α->D}{g:β->D}{l:List (α×β)}{a:α}{b:β}
def eD[BEq α](l:List (α×β))(a:α):Option Nat:=l.findIdx? fun e=>a == e.1
def jH[BEq α](l:List (α×β))(a:α)(z:β):β:=((l.find? fun e=>a == e.1).map (·.2)).getD z
def lD[BEq α](l:List (α×β))(a:α):Bool:=l.any fun e=>a == e.1
def gG[BEq α](l:List (α×β))(a:α)(b:β):List (α×β) :=
 match eD l a with
 | some i=>l.set i ((l.getD i (a,b)).1,b)
 | none=>l++[(a,b)]
theorem SC:D.mp (mK f l) (mV g l)=bI f g l:=rfl
theorem SI:(bI f g l).kE=some (mK f l,mV g l):=rfl
theorem SJ:(bI f g l).rh=some (mK f l,mV g l):=rfl
theorem R3:(mK f l).length=l.length:=by simp[mK]
theorem SE:(bI f g l).isAgg=false:=rfl
theorem SA:(bI f g l).core=bI f g l:=by simp[bI,D.core]
theorem SD:(bI f g l).gate=true:=rfl
theorem SB{k:Nat}{p:Path}:da k p (bI f g l)=.sub k p:=rfl
theorem SN{k:Nat}:cu k (bI f g l)=bI f g l:=rfl
theorem Sx{k:Nat}{p:Path}:qC k p (bI f g l)=bI f g l:=rfl
theorem SV:(bI f g l).un=bI f g l:=rfl
theorem Sv:(bI f g l).cells=[bI f g l]:=rfl
theorem Su:(bI f g l).qn=false:=rfl
theorem Sw:(bI f g l).cellsOf=some [bI f g l]:=rfl
theorem SF:(bI f g l).isObj=false:=rfl
theorem SM:(bI f g l).cn=true:=rfl
theorem SH{q:D->Bool}:(bI f g l).kill q=bI f g l:=rfl
theorem SR{σ:Nat->Nat}:(bI f g l).ay σ=bI f g l:=rfl
theorem SQ{Q:D->Prop}:(bI f g l).refs Q=True:=rfl
theorem Sy:aQ (bI f g l)=.o (bI f g l):=rfl
theorem Sz:aQ (.vw (bI f g l))=bI f g l:=rfl
theorem SO:(bI f g l).pc=true:=rfl
theorem SP:(bI f g l).fS=some (bI f g l):=rfl
theorem SL:(bI f g l).a7=true:=rfl
theorem SU:(bI f g l).tight=false:=rfl
theorem SG:(bI f g l).qV=false:=rfl
theorem SK:(bI f g l).ri=false:=rfl
theorem HA[BEq α](h:∀a b,mh (f a) (f b)=some (a == b)):fQ (f a) (mK f l)=some (eD l a):=by
 unfold mK eD;induction l with
 | nil=>rfl
 | cons e r ih =>
  simp only[List.map_cons,fQ,h,Option.bind_some,ih,List.findIdx?_cons];cases a == e.1<;>rfl
theorem R7{l:List (List UInt8×β)}{a:List UInt8}:fQ (.str a) (mK D.str l)=some (eD l a):=HA fun _ _=>rfl
theorem R6{k:IntKind}{l:List (Int×β)}{a:Int}:fQ (.int k a) (mK (D.int k) l)=some (eD l a):=HA fun a b=>by simp[mh]
theorem vM[BEq α]:cM (f a) (g b) (mK f l) (mV g l) (eD l a)=(mK f (gG l a b),mV g (gG l a b)):=by
 unfold gG mK mV;cases h:eD l a with
 | none=>simp[cM]
 | some i =>
  have hi:i<l.length:=by
   unfold eD at h;rw[List.findIdx?_eq_some_iff_findIdx_eq] at h;exact h.1
  simp only[cM,List.map_set];congr 1;have:f (l.getD i (a,b)).1=(l.map fun e=>f e.1)[i]'(by simpa using hi):=by simp[List.getD_eq_getElem?_getD,hi]
  rw[this,List.set_getElem_self]
theorem HF[BEq α]{z:β}:jK (g z) (mV g l) (eD l a)=g (jH l a z):=by
 unfold eD jH mV;induction l with
 | nil=>rfl
 | cons e r ih =>
  rw[List.findIdx?_cons,List.find?_cons];cases h:a == e.1 with
  | true=>simp[jK]
  | false =>
   simp only[Bool.false_eq_true,if_false] at ih|-
   rw[<-ih];cases r.findIdx? (fun e=>a == e.1)<;>simp[jK]
theorem R8[BEq α]:(eD l a).isSome=lD l a:=by
 unfold eD lD;rw[List.findIdx?_isSome]
theorem S4[BEq α]{k:IntKind}{l:List (α×Int)}{z:Int}:jK (.int k z) (mV (D.int k) l) (eD l a)=.int k (jH l a z):=HF
theorem S3[BEq α]{l:List (α×Bool)}{z:Bool}:jK (.bool z) (mV D.bool l) (eD l a)=.bool (jH l a z):=HF
theorem S0{k:IntKind}{l:List (List UInt8×Int)}{a:List UInt8}{b:Int}:cM (.str a) (.int k b) (mK D.str l) (mV (D.int k) l) (eD l a)=(mK D.str (gG l a b),mV (D.int k) (gG l a b)):=vM
theorem SZ{l:List (List UInt8×Bool)}{a:List UInt8}{b:Bool}:cM (.str a) (.bool b) (mK D.str l) (mV D.bool l) (eD l a)=(mK D.str (gG l a b),mV D.bool (gG l a b)):=vM
theorem SY{j k:IntKind}{l:List (Int×Int)}{a b:Int}:cM (.int j a) (.int k b) (mK (D.int j) l) (mV (D.int k) l) (eD l a)=(mK (D.int j) (gG l a b),mV (D.int k) (gG l a b)):=vM
theorem SX{j:IntKind}{l:List (Int×Bool)}{a:Int}{b:Bool}:cM (.int j a) (.bool b) (mK (D.int j) l) (mV D.bool l) (eD l a)=(mK (D.int j) (gG l a b),mV D.bool (gG l a b)):=vM
end maps
abbrev EL(s:List UInt8):List Int:=s.map fun b=>(b.toNat:Int)
def byteOf(n:Int):UInt8:=UInt8.ofNat n.toNat
theorem Ou{s:List UInt8}:sv s=bytes (EL s):=by simp[sv,bytes,ae,EL,Function.comp_def]
theorem EM:∀{l:List Int},bytesOf (l.map (D.int .u8))=some (l.map byteOf)
 | []=>rfl
 | a::r=>by simp only[List.map_cons,bytesOf,EM (l:=r),Option.bind_some];rfl
theorem Ow{l:List Int}:(ae (D.int .u8) 0 l).lY=some (l.map byteOf):=EM
attribute [go_sem] SC SI SJ R3 SE SA SD SB SN Sx SV Sv Sw SF SM SH SR SQ Sy Sz SO SP SL SU SG SK
 R7 R6 R8 S4 S3 S0 SZ SY SX Ou Ow List.head?_cons
section
variable{P:Program}{K:St->Prop}{E:Ex}{st st':St}{env env':List D}
@[congr] theorem ac2[Mode]{c:C}{K:List D->Prop}(h:env=env'):bA P c K E env=bA P c K E env':=by rw[h]
@[congr] theorem ac3[Mode]{l:List bd}(h:st=st'):ca P K l st=ca P K l st':=by rw[h]
@[congr] theorem acH[Mode]{k:Kp}{g g':Option Bool}(hg:g=g')(h:st=st'):bh P k g K st=bh P k g' K st':=by rw[h,hg]
@[congr] theorem acM{r r':Option PR}{g g':Option Bool}(h:r=r')(hg:g=g'):gZ r g K st=gZ r' g' K st:=by rw[h,hg]
@[congr] theorem acC{r r':Option PR}{g g':Option Bool}(h:r=r')(hg:g=g'):fE r g K st=fE r' g' K st:=by rw[h,hg]
@[congr] theorem acj{v v':Option Bool}{K:Bool->Prop}(h:v=v'):kn v K=kn v' K:=by rw[h]
@[congr] theorem ab6{v v':D}{A B:Prop}(h:v=v'):jx v A B=jx v' A B:=by rw[h]
@[congr] theorem acI{α:Type}{v v':Option α}{K:α->Prop}(h:v=v'):cN v K=cN v' K:=by rw[h]
@[congr] theorem abW{j:Nat}{x x':D}(h:x=x'):nr j x K st=nr j x' K st:=by rw[h]
@[congr] theorem abX{j:Nat}{x x':D}(h:x=x'):lT j x K st=lT j x' K st:=by rw[h]
@[congr] theorem abV{j:Nat}{x x':D}(h:x=x'):qt j x K st=qt j x' K st:=by rw[h]
@[congr] theorem abO{x x':D}{K:D->St->Prop}(h:x=x')(hs:st=st'):aD x K st=aD x' K st':=by rw[h,hs]
@[congr] theorem abP{x x':List D}{K:List D->St->Prop}(h:x=x')(hs:st=st'):b6 x K st=b6 x' K st':=by rw[h,hs]
@[congr] theorem ac0{k:Nat}{p p':Path}{K:D->St->Prop}(h:p=p')(hs:st=st'):eH k p K st=eH k p' K st':=by rw[h,hs]
@[congr] theorem abZ{x x':D}{K:D->St->Prop}(h:x=x')(hs:st=st'):il x K st=il x' K st':=by rw[h,hs]
@[congr] theorem acZ{b b':Bool}{n k:Nat}{p:Path}{x x':D}(h:b=b')(hs:x=x'):rL b n k p x K st=rL b' n k p x' K st:=by rw[h,hs]
@[congr] theorem acX{n:Nat}{a a' x x':D}(h:a=a')(hs:x=x'):oD n a x K st=oD n a' x' K st:=by rw[h,hs]
@[congr] theorem acY{b b':Bool}{n k:Nat}{p:Path}{x x':D}(h:b=b')(hs:x=x'):mX b n k p x K st=mX b' n k p x' K st:=by rw[h,hs]
@[congr] theorem acW{k:Nat}{p:Path}{x x':D}(hs:x=x'):qe k p x K st=qe k p x' K st:=by rw[hs]
@[congr] theorem acV{n:Nat}{a a' x x':D}(h:a=a')(hs:x=x'):kQ n a x K st=kQ n a' x' K st:=by rw[h,hs]
@[congr] theorem abT{n m:Nat}{a a' x x':D}(h:a=a')(hs:x=x'):oR n m a x K st=oR n m a' x' K st:=by rw[h,hs]
@[congr] theorem ab3[Mode]{f:FuncId}{ds ds':Option (List D)}{gt gt':Bool}{pl pl':Prop}{g g':Option Bool}{K:KH}(h1:ds=ds')(h2:gt=gt')(h3:pl=pl')(h:g=g')(hs:st=st'):lZ P f ds gt pl g st=lZ P f ds' gt' pl' g' st':=by rw[h1,h2,h3,h,hs]
@[congr] theorem acn[Mode]{f:FuncId}{d d':D}{ds ds':Option (List D)}{gt gt':Bool}{pl pl':Prop}{g g':Option Bool}{K:KH}(h0:d=d')(h1:ds=ds')(h2:gt=gt')(h3:pl=pl')(h:g=g')(hs:st=st'):kq P f d ds gt pl g st=kq P f d' ds' gt' pl' g' st':=by rw[h0,h1,h2,h3,h,hs]
@[congr] theorem acg{l l' ys ys':List D}{K:St->Prop}(h0:l=l')(h1:ys=ys')(hs:st=st'):fy l ys K st=fy l' ys' K st':=by rw[h0,h1,hs]
@[congr] theorem ace{x x' y y':D}{r r':List D}{K:St->Prop}(h0:x=x')(h1:y=y')(h2:r=r')(hs:st=st'):qP x r y K st=qP x' r' y' K st':=by rw[h0,h1,h2,hs]
@[congr] theorem ach[Mode]{f:FuncId}{ds ds':List D}{gt gt':Bool}{g g':Bool}{K:KH}(h1:ds=ds')(h2:gt=gt')(h:g=g')(hs:st=st'):lq P f ds gt g st=lq P f ds' gt' g' st':=by rw[h1,h2,h,hs]
@[congr] theorem ab9[Mode]{x x':D}{ds ds':List D}{gt gt':Bool}{g g':Bool}{K:KH}(h0:x=x')(h1:ds=ds')(h2:gt=gt')(h:g=g')(hs:st=st'):kZ P x ds gt g st=kZ P x' ds' gt' g' st':=by rw[h0,h1,h2,h,hs]
@[congr] theorem ab1{x x':D}{K:D->St->Prop}(h:x=x')(hs:st=st'):kY x K st=kY x' K st':=by rw[h,hs]
@[congr] theorem ac1{d d' l l':List D}{K:List D->St->Prop}(h:d=d')(h':l=l')(hs:st=st'):fY d l K st=fY d' l' K st':=by rw[h,h',hs]
@[congr] theorem ab2{n:Nat}{x x':D}(h:x=x')(hs:st=st'):qy n x K st=qy n x' K st':=by rw[h,hs]
@[congr] theorem ab0{z x x':D}(h:x=x')(hs:st=st'):qw z x K st=qw z x' K st':=by rw[h,hs]
@[congr] theorem ab7{x x' y y':D}{K:KH}(h:x=x')(h':y=y')(hs:st=st'):qF x y st=qF x' y' st':=by rw[h,h',hs]
@[congr] theorem acB{kk:Nat}{x x' y y' z z':D}{K:KH}(h:x=x')(h':y=y')(h2:z=z')(hs:st=st'):pA kk x y z st=pA kk x' y' z' st':=by rw[h,h',h2,hs]
@[congr] theorem acG{j:Nat}{K:KH}(hs:st=st'):pH j st=pH j st':=by rw[hs]
@[congr] theorem aca[Mode]{x x':D}{ds ds':List D}{gt gt':Bool}{g g':Option Bool}{K:KH}(h0:x=x')(h1:ds=ds')(h2:gt=gt')(h:g=g')(hs:st=st'):jy P x ds gt g st=jy P x' ds' gt' g' st':=by rw[h0,h1,h2,h,hs]
@[congr] theorem acv{h:LH}(he:env=env'):vF env=vF env':=by rw[he]
end
attribute [go_sem] bA.eq_1 bA.eq_2 bA.eq_3 bA.eq_4 bA.eq_5 bA.eq_6 bA.eq_7 bA.eq_8 bA.eq_9 bA.eq_10 bA.eq_11 ca.eq_1 ca.eq_2 ca.eq_3 bh.eq_1 bh.eq_2 bh.eq_3 bh.eq_4 bh.eq_5 bh.eq_6 bh.eq_7
  bh.eq_8 bh.eq_9 bh.eq_10 bh.eq_11 bh.eq_12 bh.eq_13 bh.eq_14 bh.eq_15 bh.eq_16 bh.eq_17 bh.eq_18 bh.eq_19 bh.eq_20 bh.eq_21 bh.eq_22 bh.eq_23 bh.eq_24 bh.eq_25
  gZ.eq_1 gZ.eq_2 fE.eq_1 fE.eq_2 bY.eq_1 bY.eq_2 bY.eq_3 bY.eq_4 bY.eq_5 bY.eq_6 bY.eq_7 bY.eq_8 bY.eq_9 lH.eq_1 lH.eq_2 qg.eq_1 qg.eq_2 nr.eq_1 qt.eq_1 lT.eq_1 lT.eq_2 jn.eq_1
  jn.eq_2 jn.eq_3 mn.eq_1 mn.eq_2 mn.eq_3 D.sO.eq_1 D.sO.eq_2 D.cn.eq_1 D.cn.eq_2 D.cn.eq_3 D.cn.eq_4 D.cn.eq_5 s8.eq_1 s8.eq_2 D.oi.eq_1 D.oi.eq_2 D.oi.eq_3 D.oi.eq_4 D.oi.eq_5
  D.oi.eq_6 aD.eq_1 aD.eq_2 aD.eq_3 aD.eq_4 aD.eq_5 aD.eq_6 aD.eq_7 aD.eq_8 aD.eq_9 aD.eq_10 aD.eq_11 aD.eq_12 aD.eq_13 aD.eq_14 aD.eq_15 b6.eq_1 b6.eq_2 eH.eq_1 eH.eq_2 il.eq_1
  il.eq_2 il.eq_3 kQ.eq_1 kQ.eq_2 mX.eq_1 mX.eq_2 qe.eq_1 D.qn.eq_1 D.qn.eq_2 Ra Su oR.eq_1 aQ.eq_1 aQ.eq_2 aQ.eq_3 aQ.eq_4 aQ.eq_5 aQ.eq_6 aQ.eq_7 aQ.eq_8 aQ.eq_9 aQ.eq_10 aQ.eq_11 aQ.eq_12 aQ.eq_13 aQ.eq_14
  aQ.eq_15 aQ.eq_16 aQ.eq_17 bC.eq_1 bC.eq_2 bC.eq_3 bC.eq_4 bC.eq_5 bC.eq_6 bC.eq_7 bC.eq_8 bC.eq_9 bC.eq_10 bC.eq_11 bC.eq_12 bC.eq_13 bC.eq_14 bC.eq_15 bC.eq_16 bC.eq_17 bC.eq_18 bC.eq_19
  bC.eq_20 bC.eq_21 bC.eq_22 bC.eq_23 bC.eq_24 bC.eq_25 bC.eq_26 bC.eq_27 bC.eq_28 g1.eq_1 g1.eq_2 g2.eq_1 g2.eq_2 one.eq_1 St.rd.eq_1 St.rd.eq_2 St.rd.eq_3 St.rd.eq_4 St.rd.eq_5 St.cont.eq_1 St.put.eq_1
  St.push.eq_1 St.kill.eq_1 cu.eq_1 cu.eq_2 cu.eq_3 cu.eq_4 da.eq_1 da.eq_2 da.eq_3 da.eq_4 da.eq_5 da.eq_6 da.eq_7 da.eq_8 da.eq_9 da.eq_10 da.eq_11 da.eq_12 da.eq_13 da.eq_14 da.eq_15 kg.eq_1
  kg.eq_2 nth.eq_1 nth.eq_2 nth.eq_3 eP.eq_1 eP.eq_2 eP.eq_3 eB.eq_1 eB.eq_2 D.kill.eq_1 D.kill.eq_2 D.kill.eq_3 D.kill.eq_4 D.kill.eq_5 D.kill.eq_6 D.kill.eq_7 D.kill.eq_8 D.kill.eq_9 D.kill.eq_10 D.core.eq_1
  D.core.eq_2 D.gate.eq_1 D.gate.eq_2 sn.eq_1 sn.eq_2 sn.eq_3 uM.eq_1 uM.eq_2 wQ.eq_1 wQ.eq_2 vL.eq_1 vL.eq_2 mr.eq_1 mr.eq_2 gD.eq_1 gD.eq_2 gD.eq_3 gD.eq_4 gD.eq_5 gD.eq_6 gD.eq_7
  gD.eq_8 gD.eq_9 gD.eq_10 gD.eq_11 gD.eq_12 gD.eq_13 kS.eq_1 kS.eq_2 kS.eq_3 kS.eq_4 kS.eq_5 kS.eq_6 kS.eq_7 kS.eq_8 qx.eq_1 qx.eq_2 qx.eq_3 lB.eq_1
  lB.eq_2 vC.eq_1 vC.eq_2 nP.eq_1 nP.eq_2 nP.eq_3 nU.eq_1 nU.eq_2 nU.eq_3 nV.eq_1 nV.eq_2 nV.eq_3 nD.eq_1 nD.eq_2 nD.eq_3 vf.eq_1 vf.eq_2 vg.eq_1 vg.eq_2 vS.eq_1 vS.eq_2 uW.eq_1
  uW.eq_2 wq.eq_1 wq.eq_2 oe.eq_1 oe.eq_2 xN.eq_1 xL.eq_1 zo.eq_1 sq.eq_1 sq.eq_2 sq.eq_3 nF.eq_1 nF.eq_2 nG.eq_1 nG.eq_2 setCells.eq_1 setCells.eq_2 D.cellsOf.eq_1 D.cellsOf.eq_2
  D.cellsOf.eq_3 D.cellsOf.eq_4 D.cellsOf.eq_5 D.cellsOf.eq_6 D.cellsOf.eq_7 D.cellsOf.eq_8 D.cellsOf.eq_9 eC.eq_1 eC.eq_2 D.rA.eq_1 D.rA.eq_2 a8.eq_1 a8.eq_2 a8.eq_3 a8.eq_4 a8.eq_5 a8.eq_6 a8.eq_7 a8.eq_8 a8.eq_9 a8.eq_10
  a8.eq_11 a8.eq_12 a8.eq_13 a8.eq_14 iv.eq_1 iv.eq_2 dO.eq_1 dO.eq_2 jx.eq_1 jx.eq_2 c7.eq_1 c7.eq_2 kc.eq_1 kc.eq_2 kK.eq_1 kK.eq_2 kK.eq_3 Ac.eq_1 Ac.eq_2 jb.eq_1 jb.eq_2
  fin.eq_1 kn.eq_1 kn.eq_2 gd.eq_1 cN.eq_1 cN.eq_2 isRow.eq_1 isRow.eq_2 pC.eq_1 pC.eq_2 pC.eq_3 D.zq.eq_1 D.zq.eq_2 D.ri.eq_1 D.ri.eq_2 D.qV.eq_1 D.qV.eq_2 D.gX.eq_1 D.gX.eq_2 D.gX.eq_3
  D.gX.eq_4 D.gX.eq_5 D.gX.eq_6 D.gX.eq_7 D.gX.eq_8 D.gX.eq_9 D.gX.eq_10 D.gX.eq_11 pI.eq_1 pI.eq_2 D.vN.eq_1 mW.eq_1 mW.eq_2 uH.eq_1 D.row?.eq_1 D.row?.eq_2 D.iO.eq_1 D.iO.eq_2 D.iO.eq_3
  D.o?.eq_1 D.o?.eq_2 D.ia.eq_1 D.ia.eq_2 D.ia.eq_3 D.ia.eq_4 D.ia.eq_5 D.ia.eq_6 D.ia.eq_7 D.ia.eq_8 D.ia.eq_9 D.ia.eq_10 p5.eq_1 p5.eq_2 D.su.eq_1 D.su.eq_2 oD.eq_1 oD.eq_2 rL.eq_1 rL.eq_2 pk.eq_1 pk.eq_2 pk.eq_3 D.jl.eq_1 D.jl.eq_2
  D.jl.eq_3 D.jl.eq_4 D.ud.eq_1 D.ud.eq_2 D.fk.eq_1 D.fk.eq_2 D.fk.eq_3 D.fk.eq_4 D.fk.eq_5 D.fk.eq_6 D.fk.eq_7 D.fk.eq_8 D.rr.eq_1 D.rr.eq_2 D.int?.eq_1 D.int?.eq_2 D.oE.eq_1 D.oE.eq_2 D.bool?.eq_1 D.bool?.eq_2 D.sa.eq_1 D.sa.eq_2
  D.sa.eq_3 D.pc.eq_1 D.pc.eq_2 D.pc.eq_3 D.pc.eq_4 D.pc.eq_5 D.pc.eq_6 D.pc.eq_7 D.pc.eq_8 D.pc.eq_9 rM.eq_1 rM.eq_2 D.fS.eq_1 D.fS.eq_2 D.fS.eq_3 D.fS.eq_4 D.fS.eq_5 D.fS.eq_6 D.fS.eq_7
  D.fS.eq_8 D.fS.eq_9 D.fS.eq_10 D.fS.eq_11 D.fS.eq_12 D.fS.eq_13 pL.eq_1 pL.eq_2 vp.eq_1 vp.eq_2 vb.eq_1 vb.eq_2 nX.eq_1 nX.eq_2 nX.eq_3 nX.eq_4 u7.eq_1 u7.eq_2 iu.eq_1 iu.eq_2
  iu.eq_3 iu.eq_4 iu.eq_5 Bi.eq_1 wT.eq_1 oH.eq_1 oH.eq_2 kX.eq_1 kX.eq_2 nx.eq_1 nx.eq_2 bump.eq_1 bump.eq_2 bump.eq_3 looks.eq_1 looks.eq_2 sK.eq_1 sK.eq_2 px.eq_1 qC.eq_1 qC.eq_2
  D.refs.eq_1 D.refs.eq_2 D.refs.eq_3 D.refs.eq_4 D.refs.eq_5 D.refs.eq_6 D.refs.eq_7 D.refs.eq_8 D.refs.eq_9 D.refs.eq_10 bH.eq_1 bH.eq_2 ox.eq_1 ox.eq_2 A3.eq_1 A3.eq_2 nq.eq_1 nq.eq_2 nq.eq_3
  apart.eq_1 apart.eq_2 apart.eq_3 cA.eq_1 cA.eq_2 cA.eq_3 dD.eq_1 kM.eq_1 kM.eq_2 aV.eq_1 aV.eq_2 aV.eq_3 bF.eq_1 bF.eq_2 bF.eq_3 bq.eq_1 bq.eq_2 bq.eq_3 gT.eq_1 gT.eq_2 gT.eq_3
  km.eq_1 km.eq_2 km.eq_3 eV.eq_1 D.hole.eq_1 D.yE.eq_1 qP.eq_1 qP.eq_2 fy.eq_1 fy.eq_2 fy.eq_3 fH.eq_1 fH.eq_2 fH.eq_3 D.cm.eq_1 D.cm.eq_2 D.cm.eq_3 D.cm.eq_4 D.jA.eq_1 D.jA.eq_2 D.cells.eq_1
  D.cells.eq_2 lk.eq_1 D.isObj.eq_1 D.isObj.eq_2 D.isObj.eq_3 D.isObj.eq_4 D.iw.eq_1 D.iw.eq_2 D.bm.eq_1 D.at.eq_1 D.at.eq_2 D.aX.eq_1 D.dZ.eq_1 D.dZ.eq_2 D.dZ.eq_3 D.dZ.eq_4 D.dZ.eq_5 D.dZ.eq_6 D.dZ.eq_7
  D.un.eq_1 D.un.eq_2 bp.eq_1 bp.eq_2 D.aZ.eq_1 D.aZ.eq_2 D.aZ.eq_3 D.aZ.eq_4 D.aZ.eq_5 D.aZ.eq_6 D.has.eq_1 D.has.eq_2 D.lu.eq_1 D.fg.eq_1 D.fg.eq_2 D.fg.eq_3 D.fg.eq_4 D.fg.eq_5
  D.fg.eq_6 D.fg.eq_7 D.setAt.eq_1 D.setAt.eq_2 D.eG.eq_1 D.eG.eq_2 D.dx.eq_1 D.dx.eq_2 D.dx.eq_3 D.dx.eq_4 D.dx.eq_5 D.dx.eq_6 D.dx.eq_7 dQ.eq_1 dQ.eq_2 dw.eq_1
  dw.eq_2 mC.eq_1 mC.eq_2 fF.eq_1 fF.eq_2 fF.eq_3 fF.eq_4 ei.eq_1 ei.eq_2 ei.eq_3 D.iz.eq_1 D.iz.eq_2 D.iz.eq_3 kI.eq_1 D.isAgg.eq_1 D.isAgg.eq_2 D.b8.eq_1 D.b8.eq_2 D.b8.eq_3
  D.b8.eq_4 D.dj.eq_1 D.dj.eq_2 D.gR.eq_1 D.gR.eq_2 D.gR.eq_3 D.cut.eq_1 D.cut.eq_2 D.cut.eq_3 D.cut.eq_4 D.a7.eq_1 D.a7.eq_2 D.a7.eq_3 D.a7.eq_4 D.a7.eq_5 D.a7.eq_6 D.a7.eq_7 db.eq_1 db.eq_2
  jy.eq_1 jy.eq_2 jy.eq_3 kZ.eq_1 kZ.eq_2 kY.eq_1 kY.eq_2 fY.eq_1 fY.eq_2 fY.eq_3 qy.eq_1 qw.eq_1 sE.eq_1 sE.eq_2 jg.eq_1 jg.eq_2 xF.eq_1 pA.eq_1 pA.eq_2 pA.eq_3
  pH.eq_1 D.sP.eq_1 D.sP.eq_2 rk.eq_1 rk.eq_2 rk.eq_3 sX.eq_1 sX.eq_2 zm.eq_1 AU.eq_1 four.eq_1 four.eq_2 four.eq_3 four.eq_4 four.eq_5 AV.eq_1 AV.eq_2 yk.eq_1 mh.eq_1 mh.eq_2 mh.eq_3 mh.eq_4 fQ.eq_1 fQ.eq_2
  D.kE.eq_1 D.kE.eq_2 D.rh.eq_1 D.rh.eq_2 D.rh.eq_3 mapOf.eq_1 mapOf.eq_2 D.kz.eq_1 D.kz.eq_2 D.kz.eq_3 D.kz.eq_4 jK.eq_1 jK.eq_2 vJ.eq_1 vB.eq_1 cM.eq_1 cM.eq_2 D.lY.eq_1 D.lY.eq_2 D.lY.eq_3
  D.lY.eq_4 qI.eq_1 qI.eq_2 eY.eq_1 eY.eq_2 D.ay.eq_1 D.ay.eq_2 D.ay.eq_3 D.ay.eq_4 D.ay.eq_5 D.ay.eq_6 D.ay.eq_7 D.ay.eq_8 D.ay.eq_9 D.ay.eq_10 dE.eq_1 dE.eq_2 jG.eq_1 jG.eq_2 jG.eq_3 jv.eq_1
  jv.eq_2 jv.eq_3 wN.eq_1 wN.eq_2 wM.eq_1 wM.eq_2 pP.eq_1 pP.eq_2 pP.eq_3 qG.eq_1 qG.eq_2 fT.eq_1 fT.eq_2 jL.eq_1 jL.eq_2 jL.eq_3 D.tight.eq_1 D.tight.eq_2 D.tight.eq_3 D.tight.eq_4 D.tight.eq_5
  D.tight.eq_6 D.tight.eq_7 D.tight.eq_8 D.tight.eq_9 D.tight.eq_10 D.tight.eq_11 D.tight.eq_12 lN.eq_1 lN.eq_2 D.rN.eq_1 D.rN.eq_2 rO.eq_1 rO.eq_2 D.ie.eq_1 D.ie.eq_2 D.ie.eq_3 jS.eq_1
  jS.eq_2
 Hm Hl Option.elim_none Option.elim_some RX Re Rf Rl Rq R0 RH Rp Ry Hq vG Rs RE Rb kD Rc Ro Ru Rv RU RF RO Rz Ho RP RZ Rj RI Q9 Rm Rr RA Rt RW Rw Rx RC RG RB Rn RQ Hn RN RR RJ RL Rk
 aae aad aab aai aaf aac aaj aag aah Xm Xl Xj Xq Xn Xk Xr Xo
 Option.bind_some Option.map_some Option.bind_none Option.map_none Option.some.injEq if_true if_false true_and and_true Bool.true_and Bool.and_true Bool.and_self Bool.false_and Bool.and_false Bool.not_true Bool.not_false List.drop_zero List.drop_succ_cons List.take_succ_cons List.take_zero List.length_cons List.length_nil List.replicate_succ List.replicate_zero List.map_cons List.map_nil
 List.getD_cons_zero List.getD_cons_succ List.set_cons_zero List.set_cons_succ List.cons_append List.nil_append List.append_nil List.isEmpty_nil List.isEmpty_cons
 reduceCtorEq decide_true decide_false implies_true true_implies false_implies and_self ne_eq not_false_eq_true not_true_eq_false beq_iff_eq true_or or_true false_or or_false eq_self Bool.false_eq_true decide_eq_true_eq decide_eq_false_iff_not Nat.zero_add Nat.add_zero imp_self
end Go.D3
namespace Go.D3
open Go
def s7(k:IntKind)(n:Int):Bool:=decide (k.min<=n)&&decide (n<=k.max)
theorem jM{k:IntKind}{n:Int}(h:s7 k n=true):k.has n:=by
 simp[s7] at h;exact h
def dy(P:Program)(t:TypeId)(n:Nat):Bool :=
 match P.info? t with
 | some i=>decide (i.size=n)
 | none=>false
def oT(P:Program)(t:TypeId)(n:Nat):Bool :=
 match P.info? t with
 | some i=>decide (i.bytes=n)
 | none=>false
def nk(P:Program)(t:TypeId):Bool:=match P.underlying t with
 | some (.struct _) | some (.array _ _)=>true
 | _=>false
def j0(P:Program)(t:TypeId):Bool:=match P.underlying t with
 | some (.struct _) | some (.array _ _) | none=>false
 | _=>true
def iE(P:Program)(t:TypeId):Option TypeId:=match P.underlying t with
 | some (.slice e)=>some e
 | _=>none
def iP(P:Program)(t:TypeId)(f:Nat):Option (Nat×TypeId):=match P.underlying t with
 | some (.struct fs)=>(fs[f]?).map fun x=>(x.offset,x.type)
 | _=>none
theorem mb{n:Nat}(h:n<=maxLen):IntKind.i64.has (n:Int):=by
 simp only[maxLen] at h;constructor
 ·simp[IntKind.min,IntKind.signed,IntKind.bits]<;>omega
 ·simp[IntKind.max,IntKind.signed,IntKind.bits]<;>omega
theorem xd(k:IntKind)(n:Int):k.has (k.wrap n):=by
 have hs:∀(bits:Nat),True:=fun _=>trivial
 cases k<;>simp only[IntKind.has,IntKind.min,IntKind.max,IntKind.wrap,IntKind.signed,IntKind.bits]<;>simp<;>(first | omega | (split<;>omega))
def Yd(P:Program)(o:Oper)(a:Act)(w:World)(v:Value):Prop:=(execOp a.eval o).run P w=.ok (.value v) w
section
variable{P:Program}{o:Oper}{w:World}{a:Act}
theorem xf{x:Operand}(ho:o.op=.move x\/o.op=.assign x):Yd P o a w (a.eval x):=by
 rcases ho with ho | ho<;>simp[Yd,execOp,ho]
theorem Qc{op:BinOp}{k:IntKind}{m n:Int}(hm:k.has m){side:Prop}{d:D}(hb:gD op k m n=some (side,d))(hs:side):∃v,Rd w (fun _=>False) v d /\
  (∀{t u:TypeId}{x y:Operand},o.op=.binOp op t x y u->a.eval x=.int k m->a.eval y=.int k n->Yd P o a w v):=by
 have hg:∀t x y w,(eqGuard op t x y (.int k m) (.int k n)).run P w=.ok () w:=by
  intro t x y w;unfold eqGuard;cases op<;>rfl
 have hq:∀(d:Int),(¬n=0)->(Op.intDiv .quo k m n).run P w=.ok (.int k (k.wrap (m.tdiv n))) w/\(Op.intDiv .rem k m n).run P w=.ok (.int k (m.tmod n)) w:=by
  intro _ h0;constructor<;>simp[Op.intDiv,h0]
 cases op<;>simp only[gD,Option.some.injEq,Prod.mk.injEq,reduceCtorEq] at hb
 case quo =>
  obtain⟨h1,rfl⟩:=hb;rw[<-h1] at hs;refine⟨.int k (k.wrap (m.tdiv n)),Rd.int (xd _ _),fun ho hx hy=>?_⟩;simp[Yd,execOp,ho,hx,hy,hg,binOp,(hq 0 hs).1]
 case rem =>
  obtain⟨h1,rfl⟩:=hb;rw[<-h1] at hs;refine⟨.int k (m.tmod n),Rd.int ?_,fun ho hx hy=>by simp[Yd,execOp,ho,hx,hy,hg,binOp,(hq 0 hs).2]⟩
  have h3:(m.tmod n).natAbs<=m.natAbs:=by
   rw[Int.natAbs_tmod];exact Nat.mod_le _ _
  obtain⟨h4,h5⟩:=hm;have h8:k.min<=0/\0<=k.max:=by cases k<;>simp[IntKind.min,IntKind.max,IntKind.signed,IntKind.bits]
  rcases Int.le_total 0 m with h6 | h6
  ·have h7:=Int.tmod_nonneg n h6
   constructor<;>omega
  ·have h7:m.tmod n<=0:=by
    have:=Int.tmod_nonneg n (show 0<=-m by omega);rw[Int.neg_tmod] at this;omega
   constructor<;>omega
 case and =>
  obtain⟨-,rfl⟩:=hb;refine⟨_,Rd.int (xd _ _),fun ho hx hy=>?_⟩;simp only[Yd,execOp,ho,hx,hy,binOp,ne_eq,not_true_eq_false,if_false];rfl
 all_goals
  obtain⟨-,rfl⟩:=hb
  first
  | exact⟨_,Rd.int (xd _ _),fun ho hx hy=>by simp[Yd,execOp,ho,hx,hy,hg,binOp,Op.intArith]⟩
  | exact⟨_,Rd.bool,fun ho hx hy=>by simp[Yd,execOp,ho,hx,hy,hg,binOp,Op.intCmp]⟩
theorem aav{op:BinOp}{m n:List UInt8}{side:Prop}{d:D}(hb:kS op m n=some (side,d))(hs:side):∃v,Rd w (fun _=>False) v d /\
  (∀{t u:TypeId}{x y:Operand},o.op=.binOp op t x y u->a.eval x=.string ⟨m.toArray⟩->a.eval y=.string ⟨n.toArray⟩->Yd P o a w v):=by
 have hg:∀t x y w,(eqGuard op t x y (.string ⟨m.toArray⟩) (.string ⟨n.toArray⟩)).run P w=.ok () w:=by
  intro t x y w;unfold eqGuard;cases op<;>rfl
 have hl:∀l:List UInt8,(⟨l.toArray⟩:ByteArray).toList=l:=fun l=>by rw[ByteArray.toList_eq]
 cases op<;>simp only[kS,Option.some.injEq,Prod.mk.injEq,reduceCtorEq] at hb
 case add =>
  obtain⟨h1,rfl⟩:=hb;rw[<-h1] at hs;refine⟨.string ⟨(m++n).toArray⟩,Rd.str (by simpa using hs),fun ho hx hy=>?_⟩
  have h2:(m.length:Int)+n.length<=9223372036854775807:=by
   simp only[maxLen] at hs;omega
  have h3:(⟨m.toArray⟩++⟨n.toArray⟩:ByteArray)=⟨(m++n).toArray⟩:=by
   apply ByteArray.ext;simp
  have h4:(⟨m.toArray⟩:ByteArray).size=m.length:=rfl;have h5:(⟨n.toArray⟩:ByteArray).size=n.length:=rfl;simp[Yd,execOp,ho,hx,hy,hg,binOp,Op.stringOp,h2,h3,h4,h5]
 all_goals
  obtain⟨-,rfl⟩:=hb;exact⟨_,Rd.bool,fun ho hx hy=>by simp[Yd,execOp,ho,hx,hy,hg,binOp,Op.stringOp,hl]⟩
theorem abG{c x y:Operand}(ho:o.op=.pick c x y){cb p q:Bool}(hc:a.eval c=.bool cb)(hx:cb=true->a.eval x=.bool p)(hy:cb=false->a.eval y=.bool q) :
  Yd P o a w (.bool (oe cb p q)):=by
 cases cb
 ·simp[Yd,execOp,ho,hc,hy,asBool,oe]
 ·simp[Yd,execOp,ho,hc,hx,asBool,oe]
theorem abF{x:Operand}{t:TypeId}(ho:o.op=.unOp .not t x){b:Bool}(hx:a.eval x=.bool b):Yd P o a w (.bool (!b)):=by
 simp[Yd,execOp,ho,hx,Op.unary]
theorem iG{k:IntKind}{n:Int}(h:k.has n):k.wrap n=n:=by
 obtain⟨h1,h2⟩:=h;cases k<;>simp[IntKind.min,IntKind.max,IntKind.wrap,IntKind.signed,IntKind.bits] at *<;>(first | omega | (split<;>omega))
theorem abt{s d:TypeId}{x:Operand}(ho:o.op=.convert s d x){k0 k1 k:IntKind}(h1:P.underlying s=some (.int k1))(h2:P.underlying d=some (.int k)){n:Int}(hx:a.eval x=.int k0 n)(hn:k0.has n) :
  Yd P o a w (.int k (if k0=k then n else k.wrap n))/\k.has (if k0=k then n else k.wrap n):=by
 have:Yd P o a w (.int k (k.wrap n)):=by simp[Yd,execOp,ho,hx,convert,run_underlying h1,run_underlying h2,Conv.intToInt]
 by_cases hk:k0=k
 ·subst hk;simp only[if_true];rw[iG hn] at this;exact⟨this,hn⟩
 ·simp only[hk,if_false];exact⟨this,xd _ _⟩
def vK:Bool->Builtin
 | true=>.max
 | false=>.min
theorem abE{mx:Bool}{k:IntKind}{m n:Int}{ts:Array TypeId}{x y:Operand}(ho:o.op=.call { callee:=.builtin (vK mx),args:=#[x,y],argTypes:=ts })(hx:a.eval x=.int k m)(hy:a.eval y=.int k n):Yd P o a w (.int k (mr mx m n)):=by
 cases mx
 ·simp only[vK] at ho
  have e:(if n<m then n else m)=min m n:=by split<;>omega
  simp[Yd,execOp,ho,hx,hy,resolve,invoke,builtin,Builtin.min_,Builtin.min2,mr,e]
 ·simp only[vK] at ho
  have e:(if m<n then n else m)=max m n:=by split<;>omega
  simp[Yd,execOp,ho,hx,hy,resolve,invoke,builtin,Builtin.max_,Builtin.max2,mr,e]
theorem Sq{mx:Bool}{k:IntKind}{m n:Int}(hm:k.has m)(hn:k.has n):k.has (mr mx m n):=by
 obtain⟨h1,h2⟩:=hm;obtain⟨h3,h4⟩:=hn;cases mx<;>exact⟨by simp only[mr];omega,by simp only[mr];omega⟩
theorem abB{t e:TypeId}{x:Operand}(ho:o.op=.call { callee:=.builtin .len,args:=#[x],argTypes:=#[t] })(ht:P.underlying t=some (.slice e)){p:Option Addr}{n c:Nat}
  (hx:a.eval x=.slice p n c):Yd P o a w (.int .i64 n):=by
 simp[Yd,execOp,ho,hx,resolve,invoke,builtin,Builtin.len_,run_underlying ht,goInt]
theorem abC{t:TypeId}{x:Operand}(ho:o.op=.call { callee:=.builtin .len,args:=#[x],argTypes:=#[t] })(ht:P.underlying t=some .string){l:List UInt8}
  (hx:a.eval x=.string ⟨l.toArray⟩):Yd P o a w (.int .i64 l.length):=by
 simp[Yd,execOp,ho,hx,resolve,invoke,builtin,Builtin.len_,run_underlying ht,goInt];rfl
theorem M7{t e:TypeId}{x i:Operand}(ho:o.op=.indexAddr t x i)(ht:P.underlying t=some (.slice e)){sz:Nat}{inf:TypeInfo}(hi:P.info? e=some inf)(hsz:inf.size=sz)
  {b off n c:Nat} (hx:a.eval x=.slice (some ⟨b,off,none⟩) n c) {k:IntKind} {m:Int} (hm:a.eval i=.int k m) (h0 : 0<=m) (h1:m<n):Yd P o a w (.pointer (some ⟨b,off+m.toNat*sz,none⟩)):=by
 have hadd:(⟨b,off,none⟩:Addr).add (m.toNat*sz)=⟨b,off+m.toNat*sz,none⟩:=by
  unfold Addr.add;split<;>simp_all
 simp[Yd,execOp,ho,hx,hm,Instr.indexAt,asIntOf,run_underlying ht,h0,h1,sizeOf,typeInfo,hi,hsz,hadd]
theorem vt{t:TypeId}(h:j0 P t=true):(isAgg t).run P w=.ok false w:=by
 unfold j0 at h;cases hu:P.underlying t with
 | none=>simp[hu] at h
 | some d=>cases d<;>simp[hu] at h<;>simp[isAgg,run_underlying hu]
theorem yW{t:TypeId}(h:nk P t=true):(isAgg t).run P w=.ok true w:=by
 unfold nk at h;cases hu:P.underlying t with
 | none=>simp[hu] at h
 | some d=>cases d<;>simp[hu] at h<;>simp[isAgg,run_underlying hu]
theorem wR{t:TypeId}{n:Nat}(h:dy P t n=true):(sizeOf t).run P w=.ok n w:=by
 unfold dy at h;cases hi:P.info? t with
 | none=>simp[hi] at h
 | some i=>simp[hi] at h;simp[sizeOf,typeInfo,hi,h]
theorem abz{t:TypeId}{x:Operand}(ho:o.op=.load t x)(ht:j0 P t=true){b off:Nat}(hx:a.eval x=.pointer (some ⟨b,off,none⟩)){v:Value}(hc:w.cell? ⟨b,off,none⟩=some v):Yd P o a w v:=by
 simp[Yd,execOp,ho,hx,Instr.loadAt,Instr.sureAddr,loadVar,vt ht,hc]
theorem abA{t:TypeId}{x:Operand}{n:Nat}(ho:o.op=.load t x)(ht:nk P t=true)(hn:dy P t n=true){b off:Nat}(hx:a.eval x=.pointer (some ⟨b,off,none⟩)){cs:List Value}
  (hl:cs.length=n) (hc:∀j v,cs[j]?=some v->w.cell? ⟨b,off+j,none⟩=some v):Yd P o a w (.agg cs.toArray):=by
 have h:=run_loadCells_list (P:=P) w ⟨b,off,none⟩ cs (fun j v hj=>by
  have hadd:(⟨b,off,none⟩:Addr).add j=⟨b,off+j,none⟩:=by unfold Addr.add;split<;>simp_all
  rw[hadd];exact hc j v hj)
 simp[Yd,execOp,ho,hx,Instr.loadAt,Instr.sureAddr,loadVar,yW ht,wR hn,<-hl,h]
theorem xe{t:TypeId}{x:Operand}{f:Nat}(ho:o.op=.fieldAddr t x f){off:Nat}{ft:TypeId}(hf:iP P t f=some (off,ft))(hz:dy P ft 0=false)(hs:(P.info? ft).isSome=true){b k:Nat}
  (hx:a.eval x=.pointer (some ⟨b,k,none⟩)):Yd P o a w (.pointer (some ⟨b,k+off,none⟩)):=by
 unfold iP at hf;cases hu:P.underlying t with
 | none=>simp[hu] at hf
 | some d =>
  cases d<;>simp[hu] at hf;obtain⟨fl,hfl,h1,h2⟩:=hf;subst h2;subst h1;cases hi:P.info? fl.type with
  | none=>simp[hi] at hs
  | some i =>
   have hne:¬i.size=0:=by simpa[dy,hi] using hz
   have hadd:(⟨b,k,none⟩:Addr).add fl.offset=⟨b,k+fl.offset,none⟩:=by unfold Addr.add;split<;>simp_all
   simp[Yd,execOp,ho,hx,Instr.fieldAt,run_underlying hu,hfl,Instr.sureAddr,fieldPlace,sizeOf,typeInfo,hi,hne,hadd]
theorem Ag{t:TypeId}(ht:j0 P t=true){cs:Array Value}{off:Nat}(h:off<cs.size):(part t cs off).run P w=.ok (cs.getD off undef) w:=by
 simp[part,vt ht,h]
theorem abw{t:TypeId}{x:Operand}{f:Nat}(ho:o.op=.field t x f){off:Nat}{ft:TypeId}(hf:iP P t f=some (off,ft))(hc:j0 P ft=true){cs:Array Value}
  (hx:a.eval x=.agg cs) (hoff:off<cs.size):Yd P o a w (cs.getD off undef):=by
 unfold iP at hf;cases hu:P.underlying t with
 | none=>simp[hu] at hf
 | some d =>
  cases d<;>simp[hu] at hf;obtain⟨fl,hfl,h1,h2⟩:=hf;subst h2;subst h1;simp[Yd,execOp,ho,hx,Instr.field,run_underlying hu,hfl,asAgg,Ag hc hoff]
theorem aby{t:TypeId}{x i:Operand}(ho:o.op=.index t x i)(ht:P.underlying t=some .string){l:List UInt8}(hx:a.eval x=.string ⟨l.toArray⟩){k:IntKind}{m:Int}(hm:a.eval i=.int k m)
  (h0 : 0<=m) (h1:m<l.length):Yd P o a w (.int .u8 (l.getD m.toNat 0).toNat)/\IntKind.u8.has ((l.getD m.toNat 0).toNat:Int):=by
 have hlt:m.toNat<l.length:=by omega
 have hs:(⟨l.toArray⟩:ByteArray)[m.toNat]?=some (l.getD m.toNat 0):=by
  show(if h:m.toNat<(⟨l.toArray⟩:ByteArray).size then some _ else none)=_;rw[dif_pos (show m.toNat<(⟨l.toArray⟩:ByteArray).size from hlt)];simp[List.getD,hlt];rfl
 refine⟨?_,?_⟩
 ·simp[Yd,execOp,ho,hx,hm,Instr.index,asIntOf,run_underlying ht,h0,hs]
 ·generalize l.getD m.toNat 0=c
  have:=c.toNat_lt;constructor<;>simp[IntKind.min,IntKind.max,IntKind.signed,IntKind.bits]<;>omega
theorem abv{x:Operand}{i:Nat}(ho:o.op=.extract x i){cs:Array Value}(hx:a.eval x=.tuple cs)(hi:i<cs.size):Yd P o a w (cs.getD i undef):=by
 simp[Yd,execOp,ho,hx,Instr.extract,hi]
theorem xg{x:Operand}(ho:o.op=.nilCheck x){p:Addr}(hx:a.eval x=.pointer (some p)):Yd P o a w (.pointer (some p)):=by
 simp[Yd,execOp,ho,hx]
theorem M8{x:Operand}(ho:o.op=.nilCheck x){f:FuncId}{l r:Array Value}(hx:a.eval x=.func (.func f) l r):Yd P o a w (.func (.func f) l r):=by
 simp[Yd,execOp,ho,hx]
end
end Go.D3
namespace Go.D3
open Go
section
variable{w:World}{ct:Nat->D}{vl:Nat->Value}{A:Nat->Prop}
def Reach(w:World)(ct:Nat->D)(vl:Nat->Value)(k:Nat)(p:Path)(v:Value)(y:D):Prop :=
 ∀q,y.has q->(ct k).aZ (p++q)/\aP w (vl k) (ct k) (p++q)=aP w v y q/\(q≠[]->aH w (vl k) (ct k) (p++q)=aH w v y q)
theorem Reach.aX{k:Nat}{p:Path}{v:Value}{y:D}(h:Reach w ct vl k p v y){i off:Nat}(hk:y.lu i off){u:Value}(hu:cz w v y i off=some u):Reach w ct vl k (p++[(i,off)]) u (y.aX i off):=by
 intro q hq;obtain⟨h1,h2,h3⟩:=h ((i,off)::q) ⟨hk,hq⟩;rw[List.append_assoc,List.singleton_append];refine⟨h1,?_,fun hne=>?_⟩
 ·rw[h2];simp only[aP,hu,Option.bind_some]
 ·rw[h3 (by simp)]
  cases q with
  | nil=>exact absurd rfl hne
  | cons t q=>simp only[aH,hu,Option.bind_some]
theorem Reach.root{k:Nat}{x:D}{F:Nat->Prop}(hc:ct k=.o x)(h:aj w A (vl k) x F):Reach w ct vl k [] (vl k) x:=by
 intro q hq;rw[List.nil_append,hc];exact⟨hq,(ig h w q).1,fun _=>(ig h w q).2⟩
theorem Reach.part{R:Value->D->Prop}{k:Nat}{F:Nat->Prop}(h:aI w A R (vl k) F (ct k)){p:Path}(hp:(ct k).aZ p)(hne:p≠[]){u:Value}(hu:aP w (vl k) (ct k) p=some u){F':Nat->Prop}
  (hlv:bp (ct k) p=true->(ct k).at p=.o ((ct k).bm p)) (hown:aj w A u ((ct k).bm p) F'):Reach w ct vl k p u ((ct k).bm p):=by
 intro q hq
 have hval:∀q,aP w u ((ct k).at p) q=aP w u ((ct k).bm p) q/\aH w u ((ct k).at p) q=aH w u ((ct k).bm p) q:=by
  intro q;by_cases hl:(ct k).at p=.o ((ct k).bm p)
  ·rw[hl];exact ig hown w q
  ·have:(ct k).at p=(ct k).bm p:=by
    unfold D.bm at hl|-
    generalize(ct k).at p=z at hl|-
    cases z<;>first | rfl | (exfalso;exact hl rfl)
   rw[this];exact⟨rfl,rfl⟩
 refine⟨?_,?_,fun hq'=>?_⟩
 ·revert hp hlv hq
  unfold D.bm;intro hp hlv hq;cases hc:ct k<;>rw[hc] at hp hlv hq<;>try exact hp.elim
  case row z l=>exact absurd hp hne
  case o x =>
   rw[hc] at h;rw[D.nu h hne] at hq
   have hx:(x.at p).un=x.at p:=by
    obtain⟨_,_,_,g1,g2,_⟩:=aj.splitAt p h hp;exact g2.un.1
   rw[hx] at hq;exact(nM x p q).2 ⟨hp,hq⟩
  case box l =>
   cases p with
   | nil=>exact absurd rfl hne
   | cons s p =>
    obtain⟨i,off⟩:=s;obtain⟨rfl,ho,hp⟩:=hp;have hk:D.aX (.box l) 0 off=l.getD off .dead:=rfl;cases p with
    | nil =>
     cases q with
     | nil=>exact⟨rfl,ho,trivial⟩
     | cons t q =>
      have hat:=hlv rfl;have e:(D.box l).at [(0,off)]=l.getD off .dead:=rfl;rw[e] at hat hq;refine⟨rfl,ho,?_⟩;rw[hat];exact hq
    | cons t p =>
     simp only at hp;split at hp
     ·rename_i y hy
      rw[hc] at h;obtain⟨_,b,cs,e,Fs,h1,h2,h3,h4,h5,h6,h7⟩:=h
      have hget:l[off]?=some (.o y):=by
       rw[List.getD_eq_getElem?_getD,List.getElem?_eq_getElem ho] at hy;rw[List.getElem?_eq_getElem ho];simpa using hy
      have hown':=h4 off _ hget;simp only[bV] at hown';have e:(D.box l).at ((0,off)::t::p)=y.at (t::p):=by rw[D.at,hk,hy,D.nu hown' (by simp)]
      rw[e] at hq
      have hx:(y.at (t::p)).un=y.at (t::p):=by
       obtain⟨_,_,_,g1,g2,_⟩:=aj.splitAt (t::p) hown' hp;exact g2.un.1
      rw[hx] at hq;refine⟨rfl,ho,?_⟩;rw[hy];exact(nM y (t::p) q).2 ⟨hp,hq⟩
     ·exact hp.elim
 ·rw[aa3,hu,Option.bind_some];exact(hval q).1
 ·rw[sd w p q _ _ hq',hu,Option.bind_some];exact(hval q).2
theorem yB(k:Nat)(p:Path):∀(l:List D)(j n:Nat),(kg k p j l)[n]?=(l[n]?).map (da k (p++[(0,j+n)]))
 | [],j,n=>by simp[kg]
 | x::r,j,0=>by simp[kg]
 | x::r,j,n+1=>by
  simp only[kg,List.getElem?_cons_succ,yB k p r (j+1) n];rw[show j+1+n=j+(n+1) by omega]
theorem yC(k:Nat)(p:Path):∀(l:List D)(j:Nat),(kg k p j l).length=l.length
 | [],_=>rfl
 | x::r,j=>by simp[kg,yC k p r]
theorem Ht(c:D)(p:Path)(s t:Nat×Nat):bp c (p++[s]++[t])=false:=by
 have:∃a b r,p++[s]++[t]=a::b::r:=by
  cases p with
  | nil=>exact⟨s,t,[],rfl⟩
  | cons a p=>cases p with
   | nil=>exact⟨a,s,[t],rfl⟩
   | cons b p=>exact⟨a,b,p++[s]++[t],rfl⟩
 obtain⟨a,b,r,h⟩:=this;rw[h];cases c<;>rfl
theorem yD{k:Nat}(y:D):∀{p:Path}{v:Value}{F:Nat->Prop},aj w A v y F->(bp (ct k) p=true->((ct k).at p).iw=true)->(∀s,bp (ct k) (p++[s])=false)->Reach w ct vl k p v y->Pl w A (af w ct vl) v (da k p y):=by
 induction y using D.ind with
 | int a n=>intro p v F h _ _ _;cases h with | int h=>exact .rd (.int h)
 | bool b=>intro p v F h _ _ _;cases h;exact .rd .bool
 | str s=>intro p v F h _ _ _;cases h with | str h=>exact .rd (.str h)
 | bc=>intro p v F h _ _ _;cases h;exact .rd .bc
 | fn f caps _=>intro p v F h _ _ _;cases h;exact .rd (.fn rfl (fun j x hx=>by simp at hx))
 | vw x _=>intro p v F h _ _ _;cases h with | vw h=>exact .rd h
 | slice z l _ _ =>
  intro p v F h hS hN hr;obtain⟨h1,h2,_⟩:=hr [] trivial;rw[List.append_nil] at h1 h2;refine .ref ⟨⟨h1,hS⟩,h2,?_⟩;cases h with
  | nil=>exact .inl ⟨_,_,_,rfl⟩
  | slice=>exact .inl ⟨_,_,_,rfl⟩
 | mp ks vs _ _ =>
  intro p v F h hS hN hr;obtain⟨h1,h2,_⟩:=hr [] trivial;rw[List.append_nil] at h1 h2;refine .ref ⟨⟨h1,hS⟩,h2,?_⟩;cases h with
  | mp=>exact .inr ⟨_,rfl⟩
 | bJ=>intro p v F h _ _ _;cases h;exact .rd .bJ
 | aY=>intro p v F h _ _ _;cases h;exact .rd .aY
 | bL s p=>intro p v F h _ _ _;exact Pl.dead
 | eo n=>intro p v F h _ _ _;exact Pl.dead
 | bf t x _=>intro p v F h _ _ _;cases h with | bf h=>exact .rd (.bf h)
 | ptr l _ =>
  intro p v F h hS hN hr;cases l with
  | nil=>exact Pl.dead
  | cons x r =>
   have hun:=h.un.1;obtain⟨h1,_,h3⟩:=hr [(0,0)] ⟨by unfold D.lu;rw[hun];exact⟨rfl,by simp⟩,trivial⟩;have h3:=h3 (by simp);simp only[da];cases h with
   | ptr Fs hb hs hr' hF hfs hdis =>
    refine .ref ⟨h1,_,h3,?_⟩;simp only[Nat.add_zero]
 | agg l ih =>
  intro p v F h hS hN hr;cases h with
  | @agg cs _ _ Fs hs hr' hfs hdis =>
   refine .agg (by rw[yC];exact hs) fun j x hx=>?_
   rw[yB,Option.map_eq_some_iff] at hx;obtain⟨y,hy,rfl⟩:=hx;obtain⟨hj,hy'⟩:=List.getElem?_eq_some_iff.1 hy;rw[Nat.zero_add]
   have hk:(D.agg l).aX 0 j=y:=by
    show l.getD j .dead=y;rw[List.getD_eq_getElem?_getD,hy];rfl
   have:=Reach.aX (i:=0) (off:=j) (u:=cs.getD j undef) hr ⟨rfl,hj⟩ rfl;rw[hk] at this;exact ih y (List.mem_of_getElem? hy) (hr' j y hy) (fun hl=>by rw[hN] at hl;cases hl) (fun s=>Ht _ _ _ s) this
 | al l ih =>
  intro p v F h hS hN hr;cases h with
  | @al cs _ _ Fs hs hr' hfs hdis =>
   refine .al (by rw[yC];exact hs) fun j x hx=>?_
   rw[yB,Option.map_eq_some_iff] at hx;obtain⟨y,hy,rfl⟩:=hx;obtain⟨hj,hy'⟩:=List.getElem?_eq_some_iff.1 hy;rw[Nat.zero_add]
   have hk:(D.al l).aX 0 j=y:=by
    show l.getD j .dead=y;rw[List.getD_eq_getElem?_getD,hy];rfl
   have:=Reach.aX (i:=0) (off:=j) (u:=cs.getD j undef) hr ⟨rfl,hj⟩ rfl;rw[hk] at this;exact ih y (List.mem_of_getElem? hy) (hr' j y hy) (fun hl=>by rw[hN] at hl;cases hl) (fun s=>Ht _ _ _ s) this
 | _=>intro p v F h _ _ _;exact Pl.dead
def cd(w:World)(A:Nat->Prop)(R:Value->D->Prop)(v:Value)(d:D):Prop:=(d.gate=true->Pl w A R v d.core)/\(d.gate=false->v=undef)
theorem O4{d:D}(h:∀g x,d≠.when g x):d.core=d/\d.gate=true:=by
 cases d<;>first | exact⟨rfl,rfl⟩ | exact absurd rfl (h _ _)
theorem Pl.pO{R:Value->D->Prop}{v:Value}{d:D}(h:Pl w A R v d)(hR:∀v g x,¬R v (.when g x)):cd w A R v d:=by
 have:∀g x,d≠.when g x:=by
  rintro g x rfl;cases h with
  | rd h=>cases h
  | ref h=>exact hR _ _ _ h
 obtain⟨h1,h2⟩:=O4 this;exact⟨fun _=>by rw[h1];exact h,fun hh=>by rw[h2] at hh;cases hh⟩
theorem pU(v:Value)(g:Bool)(x:D):¬af w ct vl v (.when g x):=fun h=>h
theorem od{k:Nat}{F:Nat->Prop}(h:aI w A (af w ct vl) (vl k) F (ct k)):cd w A (af w ct vl) (vl k) (cu k (ct k)):=by
 cases hc:ct k<;>rw[hc] at h<;>try exact Pl.pO h pU
 case o x=>exact Pl.pO (yD x h (fun hl=>by rw[hc] at hl;cases hl) (fun s=>by rw[hc];rfl) (Reach.root hc h)) pU
 case box l =>
  obtain⟨h0,b,cs,e,Fs,h1,h2,h3,h4,h5,h6,h7⟩:=h;refine Pl.pO (.ref ⟨?_,⟨b,0,none⟩,?_,h1⟩) pU
  ·rw[hc];exact⟨rfl,h0,trivial⟩
  ·rw[hc,h1];rfl
 case row z l =>
  refine Pl.pO (.ref ⟨?_,?_,?_⟩) pU
  ·rw[hc];exact⟨rfl,fun hl=>by cases hl⟩
  ·rfl
  ·obtain⟨b,sz,cs,e,h1,_⟩:=h
   exact .inl ⟨_,_,_,h1⟩
 case when g c =>
  obtain⟨h1,h2⟩:=h;have key:∀(c:D),(g=true->Pl w A (af w ct vl) (vl k) c)->(g=true->cd w A (af w ct vl) (vl k) c):=fun c h hg=>(h hg).pO pU
  have h1:=key c h1;show cd w A _ _ (.when g c);cases g with
  | true=>exact⟨fun hg=>(h1 rfl).1 (by simpa[D.gate] using hg),fun hg=>(h1 rfl).2 (by simpa[D.gate] using hg)⟩
  | false=>exact⟨fun hg=>by simp[D.gate] at hg,fun _=>h2 rfl⟩
theorem Hr{c:D}{p:Path}(hp:p≠[])(s:Nat×Nat):bp c (p++[s])=false:=by
 cases p with
 | nil=>exact absurd rfl hp
 | cons a p=>cases p<;>cases c<;>rfl
theorem zj{k:Nat}{F:Nat->Prop}(h:aI w A (af w ct vl) (vl k) F (ct k)){p:Path}(hp:(ct k).aZ p)(hne:p≠[]){a:Addr}(ha:aH w (vl k) (ct k) p=some a) :
  ∃u,w.cell? a=some u/\a.spot=none/\Pl w A (af w ct vl) u (px k (ct k) p):=by
 obtain⟨u,F1,F2,g1,g2,g3,g4,g5,g6,g7⟩:=h.splitAt hp hne;obtain⟨j1,j2,j3,_⟩:=g7 a ha;refine⟨u,j3,j2,?_⟩;unfold px gf at *;cases hl:bp (ct k) p with
 | true =>
  rw[hl] at g2;simp only at g2|-
  generalize hc:(ct k).at p=c at g2;cases c<;>try exact g2
  all_goals try exact g2.elim
  case o x =>
   have hd:(ct k).bm p=x:=by unfold D.bm;rw[hc];rfl
   have:=Reach.part h hp hne g1 (fun _=>by rw[hd,hc]) (by rw[hd];exact g2);rw[hd] at this;exact yD x g2 (fun _=>by rw[hc];rfl) (Hr hne) this
 | false =>
  rw[hl] at g2;simp only at g2|-
  have hd:(ct k).bm p=(ct k).at p:=g2.un.1;have:=Reach.part h hp hne g1 (fun hh=>by rw[hl] at hh;cases hh) (by rw[hd];exact g2);rw[hd] at this;exact yD _ g2 (fun hh=>by rw[hl] at hh;cases hh) (Hr hne) this
theorem mY{k:Nat}{F:Nat->Prop}(h:aI w A (af w ct vl) (vl k) F (ct k)){p:Path}{v:Value}(hr:af w ct vl v (.sub k p)) :
  (∃z l,ct k=.row z l/\p=[]/\v=vl k)\/(∃F',aj w A v ((ct k).bm p) F'/\(∀b,F' b->F b)/\Reach w ct vl k p v ((ct k).bm p)/\(∀z l,ct k≠.row z l)):=by
 obtain⟨⟨h1,hS⟩,h2,hsl⟩:=hr;cases p with
 | nil =>
  simp only[aP,Option.some.injEq] at h2;cases hc:ct k<;>rw[hc] at h h1<;>try exact h1.elim
  case o x =>
   refine .inr ⟨F,by rw[<-h2];exact h,fun _ h=>h,?_,by simp⟩;rw[<-h2];exact Reach.root hc h
  case box l =>
   obtain⟨_,b,cs,e,Fs,h3,_⟩:=h;rw[<-h2,h3] at hsl;rcases hsl with⟨_,_,_,hh⟩ | ⟨_,hh⟩<;>cases hh
  case row z l=>exact .inl ⟨z,l,rfl,rfl,h2.symm⟩
 | cons s p =>
  obtain⟨u,F1,F2,g1,g2,g3,g4,g5,g6,g7⟩:=h.splitAt h1 (by simp);rw[g1] at h2;injection h2 with h2
  subst h2
  have hrow:∀z l,ct k≠.row z l:=by
   intro z l hc;rw[hc] at h1;exact absurd h1 (by simp[D.aZ])
  unfold gf at g2;cases hl:bp (ct k) (s::p) with
  | false =>
   rw[hl] at g2;simp only at g2;have hd:(ct k).bm (s::p)=(ct k).at (s::p):=g2.un.1;have hown:aj w A u ((ct k).bm (s::p)) F1:=by rw[hd];exact g2
   exact .inr ⟨F1,hown,g3,Reach.part h h1 (by simp) g1 (fun hh=>by rw[hl] at hh;cases hh) hown,hrow⟩
  | true =>
   rw[hl] at g2;simp only at g2;obtain⟨x,hat⟩:=yY (hS hl);rw[hat] at g2;have hd:(ct k).bm (s::p)=x:=by unfold D.bm;rw[hat];rfl
   have hown:aj w A u ((ct k).bm (s::p)) F1:=by rw[hd];exact g2
   exact .inr ⟨F1,hown,g3,Reach.part h h1 (by simp) g1 (fun _=>by rw[hd,hat]) hown,hrow⟩
end
end Go.D3
namespace Go.D3
open Go
def cW:List UInt8->List UInt8->Bool
 | [],[]=>true
 | a::l,b::r=>a == b&&cW l r
 | _,_=>false
def aJ(ds:List (Option Nat))(tr:List Nat)(x:Operand)(y:X):Bool :=
 match x,y with
 | .tmp t,.t i=>decide (ds[i]?=some (some t))
 | .tmp t,.v j=>decide (tr[j]?=some t)
 | .const (.int k n),.i m=>decide (k=.i64)&&decide (n=m)&&s7 k n
 | .const (.int k n),.k (.int k' m)=>decide (k=k')&&decide (n=m)&&s7 k n
 | .const (.bool b),.k (.bool c)=>b == c
 | .const (.string s),.k (.str l)=>cW s.data.toList l&&decide (l.length<=65536)
 | .const (.slice none 0 0),.k (.aB _)=>true
 | .const (.pointer none),.k .bc=>true
 | .func f,.k (.fn f' [])=>f == f'
 | .global g,.g n=>g == n&&(gl n).isSome
 | .const .nilIface,.k .aY=>true
 | _,_=>false
def eX(ds:List (Option Nat))(tr:List Nat):List Operand->List X->Bool
 | [],[]=>true
 | x::l,y::r=>aJ ds tr x y&&eX ds tr l r
 | _,_=>false
def pj(ds:List (Option Nat))(tr:List Nat):Option Operand->Option X->Bool
 | none,none=>true
 | some x,some y=>aJ ds tr x y
 | _,_=>false
def gy(v:Value)(d:D):Bool :=
 match v,d with
 | .int k n,.int k' m=>decide (k=k')&&decide (n=m)&&s7 k n
 | .bool b,.bool c=>b == c
 | .string s,.str []=>s.data.toList.isEmpty
 | .nilFunc,.dead=>true
 | .slice none 0 0,.slice _ []=>true
 | .pointer none,.bc=>true
 | .map none,.bJ=>true
 | .nilIface,.aY=>true
 | _,_=>false
def rW:List Value->List D->Bool
 | [],[]=>true
 | v::l,d::r=>gy v d&&rW l r
 | _,_=>false
def oK(P:Program)(t:TypeId)(zs:List D):Bool :=
 match P.info? t with
 | some i=>match i.zero with
  | some z=>rW z.cells.toList zs&&decide (i.size=zs.length)
  | none=>false
 | none=>false
def DM:D->D
 | .vw (.aB z)=>.slice z []
 | d=>d
def nb:D->D
 | .aB z=>.slice z []
 | d=>d
def lA(P:Program)(t:TypeId)(k:Nat):Bool:=match P.underlying t,k with
 | some (.int _),0=>true
 | some .bool,1=>true
 | some .string,2=>true
 | _,_=>false
def eqFields(P:Program):Nat->List Field->List Nat->Bool
 | _,[],[]=>true
 | i,f::r,k::ks=>f.name != "_"&&decide (f.offset=i)&&lA P f.type k&&eqFields P (i+1) r ks
 | _,_,_=>false
def pg(P:Program)(ds:List (Option Nat))(tr:List Nat)(t:TypeId):List (Nat×Operand)->List (Nat×Nat×X)->Bool
 | [],[]=>true
 | (i,x)::l,(off,n,y)::r=>(match iP P t i with
     | some (o,ft)=>decide (o=off)&&dy P ft n
     | none=>false)&&aJ ds tr x y&&pg P ds tr t l r
 | _,_=>false
def F4(P:Program)(t:TypeId):Bool:=match P.underlying t with
 | some (.struct fs)=>fs.toList.all fun f=>(P.info? f.type).isSome
 | _=>false
def ku(ds:List (Option Nat))(tr:List Nat):List (Nat×Operand)->List (Nat×X)->Bool
 | [],[]=>true
 | (i,x)::l,(j,y)::r=>i == j&&aJ ds tr x y&&ku ds tr l r
 | _,_=>false
def wa:Op->Option Operand
 | .move x=>some x
 | .assign x=>some x
 | _=>none
def z7:Op->Option (Operand×Operand×Operand)
 | .pick c a b=>some (c,a,b)
 | _=>none
def oa:Op->Option (BinOp×TypeId×Operand×Operand)
 | .binOp op t x y _=>some (op,t,x,y)
 | _=>none
def zZ:Op->Option Operand
 | .unOp .not _ x=>some x
 | _=>none
def s9:Op->Option (TypeId×TypeId×Operand)
 | .convert s d x=>some (s,d,x)
 | _=>none
def mD(b:Builtin):Op->Option (List Operand×List TypeId)
 | .call c=>match c.callee with
  | .builtin b'=>if b=b' then some (c.args.toList,c.argTypes.toList) else none
  | _=>none
 | _=>none
def pJ:Op->Option (FuncId×List Operand)
 | .call c=>match c.callee with
  | .value (.func f)=>some (f,c.args.toList)
  | _=>none
 | _=>none
def zN:Op->Option (Operand×List Operand)
 | .call c=>match c.callee with
  | .value x=>some (x,c.args.toList)
  | _=>none
 | _=>none
def zQ:Op->Option (TypeId×Operand×Operand)
 | .indexAddr t x i=>some (t,x,i)
 | _=>none
def v8:Op->Option (TypeId×Operand)
 | .load t x=>some (t,x)
 | _=>none
def td:Op->Option (TypeId×Operand×Operand)
 | .store t x y=>some (t,x,y)
 | _=>none
def zP:Op->Option (TypeId×Operand×Nat)
 | .fieldAddr t x f=>some (t,x,f)
 | _=>none
def v7:Op->Option (TypeId×Operand×Nat)
 | .field t x f=>some (t,x,f)
 | _=>none
def zI:Op->Option (TypeId×Array (Nat×Operand))
 | .build t ps=>some (t,ps)
 | _=>none
def zR:Op->Option (TypeId×Operand×Operand)
 | .index t x i=>some (t,x,i)
 | _=>none
def zO:Op->Option (Operand×Nat)
 | .extract x i=>some (x,i)
 | _=>none
def zY:Op->Option Operand
 | .nilCheck x=>some x
 | _=>none
def vZ:Op->Option (TypeId×Operand)
 | .box t x=>some (t,x)
 | _=>none
def zH:Op->Option TypeId
 | .alloc t=>some t
 | _=>none
def zV:Op->Option (TypeId×Operand×Operand)
 | .makeSlice t x y=>some (t,x,y)
 | _=>none
def vY:Op->Option (TypeId×Nat×Array (Nat×Operand))
 | .buildSlice t n ps=>some (t,n,ps)
 | _=>none
def wc:Op->Option (TypeId×Operand×Option Operand×Option Operand)
 | .slice t x lo hi none=>some (t,x,lo,hi)
 | _=>none
def zU:Op->Option TypeId
 | .makeMap t none=>some t
 | _=>none
def zS:Op->Option (TypeId×Operand×Operand×Bool)
 | .lookup t x i ok=>some (t,x,i,ok)
 | _=>none
def zX:Op->Option (TypeId×Operand×Operand×Operand)
 | .mapUpdate t m k v=>some (t,m,k,v)
 | _=>none
def rb(P:Program)(t:TypeId):Option (TypeId×TypeId):=match P.underlying t with
 | some (.map k e)=>some (k,e)
 | _=>none
def zeroV(P:Program)(t:TypeId)(d:D):Bool:=match P.info? t with
 | some i=>match i.zero with
  | some z=>gy z d&&d.b8
  | none=>false
 | none=>false
def z8:Op->Option (TypeId×Operand)
 | .range t x=>some (t,x)
 | _=>none
def z6:Op->Option Operand
 | .next x true=>some x
 | _=>none
def zT:Op->Option (TypeId×Operand)
 | .makeInterface t x=>some (t,x)
 | _=>none
def zW:Op->Option (FuncId×Array Operand×Array Operand)
 | .makeFunc (.func f) first caps=>some (f,first,caps)
 | _=>none
def aW(P:Program)(ds:List (Option Nat))(tr:List Nat)(o:Oper):Kp->Bool
 | .mv y | .bX _ y | .jX _ y | .jY _ y=>match wa o.op with
  | some x=>aJ ds tr x y
  | none=>false
 | .pick c a b=>match z7 o.op with
  | some (c',a',b')=>aJ ds tr c' c&&aJ ds tr a' a&&aJ ds tr b' b
  | none=>false
 | .bin op x y=>match oa o.op with
  | some (op',_,x',y')=>decide (op=op')&&aJ ds tr x' x&&aJ ds tr y' y
  | none=>false
 | .not x=>match zZ o.op with
  | some x'=>aJ ds tr x' x
  | none=>false
 | .conv k x=>match s9 o.op with
  | some (s,d,x')=>aJ ds tr x' x&&(match P.underlying s,P.underlying d with | some (.int _),some (.int k')=>decide (k=k') | _,_=>false)
  | none=>false
 | .len x=>match mD .len o.op with
  | some ([x'],[t])=>aJ ds tr x' x&&(iE P t).isSome
  | _=>false
 | .mm mx x y=>match mD (vK mx) o.op with
  | some ([x',y'],_)=>aJ ds tr x' x&&aJ ds tr y' y
  | _=>false
 | .qY x=>match mD .len o.op with
  | some ([x'],[t])=>aJ ds tr x' x&&(match P.underlying t with | some .string=>true | _=>false)
  | _=>false
 | .br sz x i=>match zQ o.op with
  | some (t,x',i')=>aJ ds tr x' x&&aJ ds tr i' i&&decide (0<sz)&&(match iE P t with | some e=>dy P e sz | none=>false)
  | none=>false
 | .ld a=>match v8 o.op with
  | some (t,a')=>aJ ds tr a' a&&j0 P t
  | none=>false
 | .ee n a=>match v8 o.op with
  | some (t,a')=>aJ ds tr a' a&&nk P t&&dy P t n
  | none=>false
 | .fA off a=>match zP o.op with
  | some (t,a',f)=>aJ ds tr a' a&&(match iP P t f with | some (o,ft)=>decide (o=off)&&!dy P ft 0&&(P.info? ft).isSome | none=>false)
  | none=>false
 | .qR off x=>match v7 o.op with
  | some (t,x',f)=>aJ ds tr x' x&&(match iP P t f with | some (o,ft)=>decide (o=off)&&j0 P ft | none=>false)
  | none=>false
 | .im zs parts=>match zI o.op with
  | some (t,ps)=>oK P t (zs.map nb)&&pg P ds tr t ps.toList parts&&F4 P t
  | none=>false
 | .qU x i=>match zR o.op with
  | some (t,x',i')=>aJ ds tr x' x&&aJ ds tr i' i&&(match P.underlying t with | some .string=>true | _=>false)
  | none=>false
 | .ext i x=>match zO o.op with
  | some (x',i')=>aJ ds tr x' x&&i == i'
  | none=>false
 | .bD x=>match zY o.op with
  | some x'=>aJ ds tr x' x
  | none=>false
 | .eqs neg ks x y=>match oa o.op with
  | some (op,t,x',y')=>decide (op=if neg then .neq else .eql)&&aJ ds tr x' x&&aJ ds tr y' y&&(match P.underlying t with | some (.struct fs)=>eqFields P 0 fs.toList ks&&!P.stoodInHeld t | _=>false)&&!P.eqGuardType P.depth t
  | none=>false
 | .call f xs=>match pJ o.op with
  | some (f',as)=>f == f'&&eX ds tr as xs&&eQ P f
  | none=>false
 | .iN f xs=>match pJ o.op with
  | some (f',as)=>f == f'&&eX ds tr as xs&&eQ P f
  | none=>false
 | .box n x=>match vZ o.op with
  | some (e,x')=>aJ ds tr x' x&&dy P e n
  | none=>false
 | .gh n x | .lX n x=>match vZ o.op with
  | some (e,x')=>aJ ds tr x' x&&dy P e n
  | none=>false
 | .cB zs=>match zH o.op with
  | some t=>oK P t (zs.map nb)
  | none=>false
 | .ah z bytes l c=>match zV o.op with
  | some (t,l',c')=>aJ ds tr l' l&&aJ ds tr c' c&&decide (0<z.cells.length)&&(match iE P t with | some e=>oK P e (z.cells.map DM)&&oT P e bytes&&decide (0<bytes) | none=>false)
  | none=>false
 | .ch z n parts=>match vY o.op with
  | some (t,n',ps)=>n == n'&&ku ds tr ps.toList parts&&decide (0<z.cells.length)&&decide (n*z.cells.length<=16777216)&&(match iE P t with | some e=>oK P e z.cells | none=>false)
  | none=>false
 | .jZ z x=>match vY o.op with
  | some (t,n',ps)=>decide (n'=1)&&ku ds tr ps.toList [(0,x)]&&decide (0<z.cells.length)&&decide (z.cells.length<=16777216)&&(match iE P t with | some e=>oK P e z.cells | none=>false)
  | none=>false
 | .st a x=>match td o.op with
  | some (t,a',x')=>aJ ds tr a' a&&aJ ds tr x' x&&dy P t 1
  | none=>false
 | .bG n a x=>match td o.op with
  | some (t,a',x')=>aJ ds tr a' a&&aJ ds tr x' x&&dy P t n
  | none=>false
 | .jk n a x=>match td o.op with
  | some (t,a',x')=>aJ ds tr a' a&&aJ ds tr x' x&&dy P t n
  | none=>false
 | .app sz bytes s x=>match mD .append o.op with
  | some ([s',x'],[t,t'])=>aJ ds tr s' s&&aJ ds tr x' x&&t == t'&&(match iE P t with
   | some e=>oT P e bytes&&(match P.info? e with | some i=>decide (0<sz)&&decide (0<bytes)&&decide (i.size=sz)&&i.zero.any (fun z=>decide (z.cells.size=i.size)) | none=>false) | none=>false)
  | _=>false
 | .eJ sz bytes b s=>match mD .append o.op with
  | some ([s',x'],[t,t'])=>aJ ds tr s' (.t b)&&aJ ds tr x' (.t s)&&t == t'&&(match iE P t with
   | some e=>oT P e bytes&&(match P.info? e with | some i=>decide (0<sz)&&decide (0<bytes)&&decide (i.size=sz)&&i.zero.any (fun z=>decide (z.cells.size=i.size)) | none=>false) | none=>false)
  | _=>false
 | .qb x lo hi=>match wc o.op with
  | some (t,x',lo',hi')=>aJ ds tr x' x&&pj ds tr lo' lo&&pj ds tr hi' hi&&(match P.underlying t with | some .string=>true | _=>false)
  | none=>false
 | .sl x lo hi=>match wc o.op with
  | some (t,x',lo',hi')=>aJ ds tr x' x&&pj ds tr lo' lo&&pj ds tr hi' hi&&(match P.underlying t with | some (.slice e)=>dy P e 1 | _=>false)
  | none=>false
 | .rf f caps=>match zW o.op with
  | some (f',first,captured)=>f == f'&&first.isEmpty&&eX ds tr captured.toList caps
  | none=>false
 | .dyn x xs=>match zN o.op with
  | some (x',as)=>aJ ds tr x' x&&eX ds tr as xs
  | none=>false
 | .gF=>(zU o.op).isSome
 | .pz ok kk z m k=>match zS o.op with
  | some (t,m',k',ok')=>aJ ds tr m' m&&aJ ds tr k' k&&ok == ok'&&(match rb P t with | some (kt,e)=>lA P kt kk&&zeroV P e z | none=>false)
  | none=>false
 | .pv x=>match mD .len o.op with
  | some ([x'],[t])=>aJ ds tr x' x&&(rb P t).isSome
  | _=>false
 | .mu kk m k v=>match zX o.op with
  | some (t,m',k',v')=>aJ ds tr m' m&&aJ ds tr k' k&&aJ ds tr v' v&&(match rb P t with | some (kt,_)=>lA P kt kk | none=>false)
  | none=>false
 | .oZ x=>match s9 o.op with
  | some (s,d,x')=>aJ ds tr x' x&&(match P.underlying s,P.underlying d with
   | some (.slice e),some .string=>(match P.underlying e with | some (.int .u8)=>true | _=>false)
   | _,_=>false)
  | none=>false
 | .gB x=>match s9 o.op with
  | some (s,d,x')=>aJ ds tr x' x&&(match P.underlying s,P.underlying d with
   | some .string,some (.slice e)=>(match P.underlying e with | some (.int .u8)=>true | _=>false)
   | _,_=>false)
  | none=>false
 | .rj neg x=>match oa o.op with
  | some (op',t,x',.const .nilIface)=>decide (op'=if neg then .neq else .eql)&&aJ ds tr x' x&&(match P.underlying t with | some (.interface _)=>true | _=>false)
  | _=>false
 | .pE neg x=>match oa o.op with
  | some (op',t,x',.const (.slice none _ _))=>decide (op'=if neg then .neq else .eql)&&aJ ds tr x' x&&(iE P t).isSome
  | _=>false
 | .re t x=>match zT o.op with
  | some (t',x')=>decide (t=t')&&aJ ds tr x' x&&(match P.underlying t with | some (.interface _)=>false | some _=>true | none=>false)
  | none=>false
 | .fq x=>match z8 o.op with
  | some (t,x')=>aJ ds tr x' x&&(match P.underlying t with | some .string=>true | _=>false)
  | none=>false
 | .mB j=>match z6 o.op with
  | some x'=>aJ ds tr x' (.v j)
  | none=>false
def closure(acc:List Nat)(o:Oper):Nat:=o.after.toList.foldl (fun s e=>if Region.binds .any e=true then s ||| (1 <<< e.on ||| acc.getD e.on 0) else s) 0
def ew:List Nat->List Oper->List Nat
 | acc,[]=>acc
 | acc,o::r=>ew (acc++[closure acc o]) r
def fP(cl:List Nat)(i x:Nat):Bool:=(cl.getD i 0).testBit x
def hZ:X->List Nat
 | .t n=>[n]
 | _=>[]
def Ay:Option X->List Nat
 | some x=>hZ x
 | none=>[]
def Kp.reads:Kp->List Nat
 | .mv x | .bX _ x | .jX _ x | .jY _ x | .not x | .conv _ x | .len x | .qY x | .ld x | .ee _ x | .fA _ x | .qR _ x | .ext _ x | .bD x | .box _ x | .gh _ x | .lX _ x | .jZ _ x | .pv x | .oZ x | .pE _ x | .re _ x | .rj _ x | .fq x | .gB x=>hZ x
 | .cB _=>[]
 | .gF | .mB _=>[]
 | .eJ _ _ b s=>[b,s]
 | .pick a b c | .mu _ a b c=>hZ a++hZ b++hZ c
 | .bin _ x y | .mm _ x y | .br _ x y | .qU x y | .eqs _ _ x y | .ah _ _ x y | .st x y | .bG _ x y | .jk _ x y | .app _ _ x y | .pz _ _ _ x y=>hZ x++hZ y
 | .im _ ps=>ps.flatMap fun p=>hZ p.2.2
 | .ch _ _ ps=>ps.flatMap fun p=>hZ p.2
 | .call _ xs | .iN _ xs | .rf _ xs=>xs.flatMap hZ
 | .qb x lo hi | .sl x lo hi=>hZ x++Ay lo++Ay hi
 | .dyn x xs=>hZ x++xs.flatMap hZ
def Kp.xs:Kp->List X
 | .mv x | .bX _ x | .jX _ x | .jY _ x | .not x | .conv _ x | .len x | .qY x | .ld x | .ee _ x | .fA _ x | .qR _ x | .ext _ x | .bD x | .box _ x | .gh _ x | .lX _ x | .jZ _ x | .pv x | .oZ x | .pE _ x | .re _ x | .rj _ x | .fq x | .gB x=>[x]
 | .cB _=>[]
 | .gF=>[]
 | .mB j=>[.v j]
 | .eJ _ _ b s=>[.t b,.t s]
 | .pick a b c | .mu _ a b c=>[a,b,c]
 | .bin _ x y | .mm _ x y | .br _ x y | .qU x y | .eqs _ _ x y | .ah _ _ x y | .st x y | .bG _ x y | .jk _ x y | .app _ _ x y | .pz _ _ _ x y=>[x,y]
 | .im _ ps=>ps.map (·.2.2)
 | .ch _ _ ps=>ps.map (·.2)
 | .call _ xs | .iN _ xs | .rf _ xs=>xs
 | .qb x lo hi | .sl x lo hi=>x::lo.toList++hi.toList
 | .dyn x xs=>x::xs
def Kp.dq:Kp->Option Nat
 | .bX j _ | .jX j _ | .jY j _=>some j
 | _=>none
def tc(pre:List Nat)(s:bd):Bool :=
 (match s.k.dq with | some j=>!pre.contains j | none=>true)&&s.k.xs.all (fun x=>match x with | .v j=>!pre.contains j | _=>true)
def Kp.gj:Kp->Bool
 | .bX _ _ | .jX _ _ | .jY _ _ | .st _ _ | .bG _ _ _ | .jk _ _ _ | .app _ _ _ _ | .iN _ _ | .dyn _ _ | .lX _ _ | .jZ _ _ | .eJ _ _ _ _ | .mu _ _ _ _ | .mB _=>true
 | _=>false
def Kp.mf:Kp->Bool
 | .eJ _ _ _ _=>true
 | _=>false
def bd.yX(s:bd):Bool:=s.g.isNone&&match s.k with | .mv (.v _)=>true | _=>false
def fU(o:Oper)(s:bd):Option Nat:=match s.k.dq with
 | some _=>none
 | none=>o.dst
def bO:List Oper->List bd->List (Option Nat)
 | o::l,s::r=>fU o s::bO l r
 | _,_=>[]
def lj(P:Program)(nt:Nat)(ds:List (Option Nat))(tr:List Nat):Nat->List Oper->List bd->Bool
 | _,[],[]=>true
 | n,o::l,s::r=>(match o.dst with | some d=>decide (d<nt) | none=>true) &&
   (match s.k.dq with | some j=>decide (o.dst=tr[j]?)&&decide (j<tr.length)&&s.g.isNone | none=>true) &&
   (match o.guard,s.g with
    | none,none=>true
    | some (j,want),some (i,want')=>j == i&&want == want'&&decide (i<n)&&(match ds[i]? with | some (some _)=>true | _=>false)
    | _,_=>false)&&aW P ds tr o s.k&&s.k.reads.all (fun i=>decide (i<n))&&lj P nt ds tr (n+1) l r
 | _,_,_=>false
def sY:List (Option Nat)->Bool
 | []=>true
 | none::r=>sY r
 | some d::r=>!(r.contains (some d))&&sY r
def vQ:List Nat->Bool
 | []=>true
 | d::r=>!(r.contains d)&&vQ r
def sk(tr pre:List Nat):List (Option Nat)->Bool
 | []=>true
 | none::r=>sk tr pre r
 | some d::r=>(tr.zipIdx.all fun p=>!(p.1 == d) || pre.contains p.2)&&sk tr pre r
def wu(ds:List (Option Nat))(tr pre:List Nat):List (Nat×Nat)->Bool
 | []=>true
 | (j,i)::r=>pre.contains j&&(match tr[j]?,ds[i]? with | some t,some (some d)=>t == d | _,_=>false)&&!((r.map (·.1)).contains j)&&wu ds tr pre r
def xE(cl:List Nat)(sl:List bd)(e b:Nat):Bool :=
 sl.zipIdx.all fun q=>decide (q.2=e) || !q.1.k.mf&&!q.1.k.reads.contains b&&(match q.1.g with | some (i,_)=>i != b | none=>true)&&(decide (q.2<=e) || fP cl q.2 e || q.1.yX)
def u5(k:Nat)(cl:List Nat)(sl:List bd):Bool :=
 sl.zipIdx.all fun p=>(p.1.k.reads.all fun i=>fP cl p.2 i)&&(match p.1.g with | some (i,_)=>fP cl p.2 i | none=>true) &&
  (match p.1.k with
   | .eJ _ _ b _=>xE cl sl p.2 b
   | kk=>!kk.gj || ((List.range p.2).all fun i=>decide (i<k) || fP cl p.2 i)&&((List.range sl.length).all fun i=>decide (i<=p.2) || fP cl i p.2))
def jz(ops:List Oper):Bool:=ops.zipIdx.all fun p=>p.1.after.toList.all fun e=>!Region.binds .any e || decide (e.on<p.2)
def DO(vs ds:List Nat):Operand->Bool
 | .tmp t=>vs.contains t || !ds.contains t
 | _=>false
def aa2(tr vs ds:List Nat)(o:Oper):Bool :=
 o.guard.isNone&&(match o.dst with | some d=>!tr.contains d | none=>false)&&(match o.op with | .move x=>DO vs ds x | .nilCheck x=>DO vs ds x | .fieldAddr _ x _=>DO vs ds x | _=>false)
def DN(tr ds:List Nat):Nat->List Nat->List Nat->List Oper->List Nat
 | _,_,_,[]=>[]
 | i,vs,is,o::r=>if(aa2 tr vs ds o&&o.after.toList.all fun e=>!Region.binds .any e || is.contains e.on)=true then i::DN tr ds (i+1) (o.dst.toList++vs) (i::is) r else DN tr ds (i+1) vs is r
def Fz:List Oper->List Nat
 | []=>[]
 | o::r=>o.dst.toList++Fz r
def yR(tr:List Nat)(ops:Array Oper):List Nat:=DN tr (Fz ops.toList) 0 [] [] ops.toList
def yQ(tr:List Nat)(ops:Array Oper):List Nat:=yR tr ops++(List.range ops.size).filter fun i=>!(yR tr ops).contains i
def posOf:List Nat->Nat->Nat
 | [],_=>0
 | i::r,j=>if i=j then 0 else posOf r j+1
def gu(ρ:Nat->Nat)(o:Oper):Oper:={ o with after:=o.after.map fun e=>{ e with on:=ρ e.on },guard:=o.guard.map fun g=>(ρ g.1,g.2) }
def gq(l:List Nat)(ops:Array Oper):Array Oper:=(l.map fun i=>gu (posOf l) (ops.getD i default)).toArray
def pM(l:List Nat)(n:Nat):Bool:=decide (l.length=n)&&((List.range n).all fun j=>decide (posOf l j<n)&&decide (l.getD (posOf l j) n=j))&&(List.range n).all fun i=>decide (l.getD i n<n)&&decide (posOf l (l.getD i n)=i)
def ma(n:Nat)(ops:List Oper):Bool:=ops.all fun o=>match o.guard with | some (j,_)=>decide (j<n) | none=>true
def bd.ph(s:bd):Bool:=s.g.isNone&&match s.k with | .mv _ | .bD _ | .fA _ _=>true | _=>false
def sW(draw:Bool)(ops:Array Oper)(l:List bd):Bool:=draw&&!u5 0 (ew [] ops.toList) l
def fO(tr:List Nat)(draw:Bool)(ops:Array Oper)(l:List bd):Array Oper:=if sW draw ops l=true then gq (yQ tr ops) ops else ops
def Am(n i:Nat):Array Bool:=((List.range n).map fun j=>decide (j<i)).toArray
def IN(e:Array Oper)(k:Nat)(l:List bd):Bool:=(l.take k).all bd.ph&&Region.noSelect e&&(List.range k).all fun i=>Region.free .any e (Am e.size i) i
def kH(tr:List Nat)(draw:Bool)(ops:Array Oper)(l:List bd):Nat:=if sW draw ops l=true then(yR tr ops).length else 0
def kj(P:Program)(nt:Nat)(tr:List Nat)(ops:Array Oper)(draw:Bool)(pre:List Nat)(l:List bd)(post:List (Nat×Nat)):Bool :=
 let e:=fO tr draw ops l;let ds:=bO e.toList l
 decide (e.size=l.length)&&lj P nt ds tr 0 e.toList l&&sY ds&&sk tr pre ds&&wu ds tr pre post&&pre.all (fun j=>decide (j<tr.length))&&l.all (tc pre) &&
  (!draw || (P.follows .mixedOrders&&jz e.toList&&u5 (kH tr draw ops l) (ew [] e.toList) l)) &&
  (!sW draw ops l || (pM (yQ tr ops) ops.size&&ma ops.size ops.toList&&jz ops.toList&&IN e (kH tr draw ops l) l&&decide (kH tr draw ops l<=l.length)))
def qJ(ops:Array Oper):Bool:=ops.toList.all fun o=>o.after.toList.all fun e=>!Region.binds .any e || decide (e.on<ops.size)
def fx(i j:Nat)(ops:Array Oper):Array Oper:=ops.modify j fun o=>{ o with after:=o.after.push ⟨i,.data⟩ }
def sI(P:Program)(nt:Nat)(tr pre:List Nat):RT->Array Oper->Bool
 | .leaf l post,ops=>kj P nt tr ops true pre l post
 | .two i j pm a b,ops=>decide (i≠j)&&decide (i<ops.size)&&decide (j<ops.size)&&qJ ops&&ma ops.size ops.toList&&pM pm ops.size&&sI P nt tr pre a (fx i j ops)&&sI P nt tr pre b (gq pm (fx j i ops))
def cw(P:Program)(nt:Nat)(tr:List Nat):Code->C->Bool
 | .skip,.skip=>true
 | .region _ ops draw,.ops pre l post=>kj P nt tr ops draw pre l post
 | .region _ ops draw,.alt pre t=>draw&&jz ops.toList&&sI P nt tr pre t ops
 | .seq (.region _ ops draw) (.cond x a b),.eF pre l post y c d=>kj P nt tr ops draw pre l post&&aJ (bO (fO tr draw ops l).toList l) tr x y&&cw P nt tr a c&&cw P nt tr b d
 | .seq (.region _ ops draw) (.seq (.cond x a b) r),.wg pre l post y c d e=>kj P nt tr ops draw pre l post&&aJ (bO (fO tr draw ops l).toList l) tr x y&&cw P nt tr a c&&cw P nt tr b d&&cw P nt tr r e
 | .seq a b,.seq c d=>cw P nt tr a c&&cw P nt tr b d
 | .cond x a b,.cond y c d=>aJ [] tr x y&&cw P nt tr a c&&cw P nt tr b d
 | .block i a,.block j c=>i == j&&cw P nt tr a c
 | .loop a,.loop c=>cw P nt tr a c
 | .exit i,.exit j=>i == j
 | .ret,.ret=>true
 | _,_=>false
def lG(nt:Nat)(tr:List Nat):Bool:=vQ tr&&tr.all (fun t=>decide (t<nt))&&decide (tr.length<500)
end Go.D3
namespace Go.D3
open Go
theorem FL:∀{l r:List UInt8},cW l r=true->l=r
 | [],[],_=>rfl
 | [],_::_,h=>by simp[cW] at h
 | _::_,[],h=>by simp[cW] at h
 | a::l,b::r,h=>by
  simp[cW] at h;rw[h.1,FL h.2]
theorem yn(s:ByteArray):s=⟨s.data.toList.toArray⟩:=by cases s;simp
section
variable{P:Program}{o:Oper}{w:World}{A:Nat->Prop}{ct:Nat->D}{vl:Nat->Value}{a:Act}{v:Value}
theorem ek{k:IntKind}{n:Int}(h:Pl w A (af w ct vl) v (.int k n)):v=.int k n/\k.has n:=by
 cases h with
 | rd h=>cases h with | int h=>exact⟨rfl,h⟩
 | ref h=>exact h.elim
theorem pl_bool{b:Bool}(h:Pl w A (af w ct vl) v (.bool b)):v=.bool b:=by
 cases h with
 | rd h=>cases h;rfl
 | ref h=>exact h.elim
theorem gI{l:List UInt8}(h:Pl w A (af w ct vl) v (.str l)):v=.string ⟨l.toArray⟩/\l.length<=maxLen:=by
 cases h with
 | rd h=>cases h with | str h=>exact⟨rfl,h⟩
 | ref h=>exact h.elim
theorem mJ{l:List D}(h:Pl w A (af w ct vl) v (.agg l)):∃cs:Array Value,v=.agg cs/\cs.size=l.length/\∀j x,l[j]?=some x->Pl w A (af w ct vl) (cs.getD j undef) x:=by
 cases h with
 | rd h=>cases h with | agg hs hr=>exact⟨_,rfl,hs,fun j x hx=>.rd (hr j x hx)⟩
 | ref h=>exact h.elim
 | agg hs hr=>exact⟨_,rfl,hs,hr⟩
theorem Wp{l:List D}(h:Pl w A (af w ct vl) v (.al l)):∃cs:Array Value,v=.tuple cs/\cs.size=l.length/\∀j x,l[j]?=some x->Pl w A (af w ct vl) (cs.getD j undef) x:=by
 cases h with
 | rd h=>cases h with | al hs hr=>exact⟨_,rfl,hs,fun j x hx=>.rd (hr j x hx)⟩
 | ref h=>exact h.elim
 | al hs hr=>exact⟨_,rfl,hs,hr⟩
theorem ru{l:List D}(h:Pl w A (af w ct vl) v (.ptr l)):∃b off,v=.pointer (some ⟨b,off,none⟩)/\A b/\∀j x,l[j]?=some x->∃u,w.cell? ⟨b,off+j,none⟩=some u/\Rd w A u x:=by
 cases h with
 | rd h=>cases h with | ptr hA vs hc hr=>exact⟨_,_,rfl,hA,fun j x hx=>⟨vs j,hc j x hx,hr j x hx⟩⟩
 | ref h=>exact h.elim
theorem bU{d:D}(h:Pl w A (af w ct vl) v d)(hd:∀k p,d≠.sub k p)(ha:∀k p,d≠.av k p)(hf:∀f c,d≠.fn f c)(hg:∀l,d≠.agg l)(ht:∀l,d≠.al l)(hp:∀k p n,d≠.pre k p n:=by simp):Rd w A v d:=by
 cases h with
 | rd h=>exact h
 | @ref v d h=>cases d<;>first | exact h.elim | exact absurd rfl (hd _ _) | exact absurd rfl (ha _ _) | exact absurd rfl (hf _ _) | exact absurd rfl (hp _ _ _)
 | agg=>exact absurd rfl (hg _)
 | al=>exact absurd rfl (ht _)
 | fn=>exact absurd rfl (hf _ _)
theorem pN{z:D}{L:List D}(h:Pl w A (af w ct vl) v (.slice z L)):Rd w A v (.slice z L) :=
 bU h (by simp) (by simp) (by simp) (by simp) (by simp)
theorem dM{k:Nat}{p:Path}(h:Pl w A (af w ct vl) v (.sub k p)):af w ct vl v (.sub k p):=by
 cases h with
 | rd h=>cases h
 | ref h=>exact h
theorem fG{k:Nat}{p:Path}(h:Pl w A (af w ct vl) v (.av k p)):lQ w ct vl v k p:=by
 cases h with
 | rd h=>cases h
 | ref h=>exact h
theorem oh{f:FuncId}{caps:List D}(h:Pl w A (af w ct vl) v (.fn f caps)):∃cs:Array Value,v=.func (.func f) #[] cs/\cs.size=caps.length/\∀j x,caps[j]?=some x->Pl w A (af w ct vl) (cs.getD j undef) x:=by
 cases h with
 | rd h=>cases h with | fn hs hr=>exact⟨_,rfl,hs,fun j x hx=>.rd (hr j x hx)⟩
 | ref h=>exact h.elim
 | fn hs hr=>exact⟨_,rfl,hs,hr⟩
theorem Aw{z:D}{L:List D}(h:Rd w A v (.slice z L)):∃p cap,v=.slice p L.length cap/\L.length<=cap/\cap<=maxLen /\
  (L≠[]->∃b off,p=some ⟨b,off,none⟩/\A b/\0<z.cells.length/\(∀x∈L,x.cells.length=z.cells.length)/\∀j x,cellAt L z.cells.length j=some x->∃u,w.cell? ⟨b,off+j,none⟩=some u/\Rd w A u x):=by
 cases h with
 | nil=>exact⟨none,0,rfl,Nat.le_refl _,Nat.zero_le _,fun h=>absurd rfl h⟩
 | empty hm=>exact⟨_,_,rfl,Nat.zero_le _,hm,fun h=>absurd rfl h⟩
 | slice hA hc hm hz hzz hsz vs hcells hr =>
  subst hzz;exact⟨_,_,rfl,hc,hm,fun _=>⟨_,_,rfl,hA,hz,hsz,fun j x hx=>⟨vs j,hcells j x hx,hr j x hx⟩⟩⟩
theorem tp{z:D}{L:List D}{F:Nat->Prop}(h:aj w A v (.slice z L) F):∃p cap,v=.slice p L.length cap/\L.length<=cap/\cap<=maxLen/\(L≠[]->∃b off,p=some ⟨b,off,none⟩):=by
 cases h with
 | nil=>exact⟨none,0,rfl,Nat.le_refl _,Nat.zero_le _,fun h=>absurd rfl h⟩
 | slice Fs hb hroom hc hm hz hzz hsz hr hF hfs hdis=>exact⟨_,_,rfl,hc,hm,fun _=>⟨_,_,rfl⟩⟩
theorem oJ{w:World}{A:Nat->Prop}{x:D}(h:Pl w A (af w ct vl) v x){l:List D}(hl:x.cellsOf=some l):v.cells.size=l.length/\∀j c,l[j]?=some c->Pl w A (af w ct vl) (v.cells.getD j undef) c:=by
 have one:(v.cells=#[v])->l=[x]->v.cells.size=l.length/\∀j c,l[j]?=some c->Pl w A (af w ct vl) (v.cells.getD j undef) c:=by
  rintro h1 rfl;refine⟨by simp[h1],fun j c hc=>?_⟩;cases j with
  | zero=>simp at hc;subst hc;simpa[h1] using h
  | succ j=>simp at hc
 have rdc:∀{v:Value}{d:D},Rd w A v d->(∀l,d≠.agg l)->d≠.dead->(∀y,d≠.o y)->(∀y,d≠.vw y)->v.cells=#[v]:=by
  intro v d h h1 h2 h3 h4;cases h<;>first | rfl | exact absurd rfl (h1 _) | exact absurd rfl h2 | exact absurd rfl (h3 _) | exact absurd rfl (h4 _)
 cases x<;>simp only[D.cellsOf,Option.some.injEq,reduceCtorEq] at hl
 case agg l' =>
  subst hl;obtain⟨cs,rfl,h1,h2⟩:=mJ h;exact⟨h1,h2⟩
 case pre k p n =>
  refine one ?_ hl.symm;cases h with
  | rd h=>cases h
  | ref h=>obtain⟨q,m,c,_,_,rfl⟩:=h;rfl
 all_goals
  refine one ?_ hl.symm
 case sub k p=>obtain⟨_,_,⟨q,n,c,rfl⟩ | ⟨r,rfl⟩⟩:=dM h<;>rfl
 case av k p=>obtain⟨_,_,_,rfl⟩:=fG h;rfl
 case fn f caps=>obtain⟨cs,rfl,_⟩:=oh h;rfl
 all_goals exact rdc (bU h (by simp) (by simp) (by simp) (by simp) (by simp)) (by simp) (by simp) (by simp) (by simp)
end
end Go.D3
