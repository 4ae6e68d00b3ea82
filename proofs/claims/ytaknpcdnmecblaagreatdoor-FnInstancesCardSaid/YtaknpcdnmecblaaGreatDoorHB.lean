/- WHAT A READING SAYS OF A VALUE; struct literals, comparisons of structs, slices of views, function values. Generic. -/
import Derived.Test.YtaknpcdnmecblaaGreatDoorHA
import Derived.Attr
import Derived.Laws.Entries
import Derived.Laws.Tables
import Derived.Laws.MakeOwn
import Derived.Laws.Cells
import Derived.Laws.StructEq
import Derived.Orders
namespace Go.D3
open Go
structure St where
 env:List D
 n:Nat
 tmp:List D
def nth:List D->Nat->D
 | [],_=>.dead
 | a::_,0=>a
 | _::l,i+1=>nth l i
def fa:List D->Nat->D->List D
 | [],_,_=>[]
 | _::l,0,x=>x::l
 | a::l,i+1,x=>a::fa l i x
def St.cont(st:St)(k:Nat):D:=if k<1000 then nth st.env k else if k<1000+st.n then nth st.tmp (999+st.n-k) else .dead
def St.put(st:St)(k:Nat)(c:D):St:=if k<1000 then⟨fa st.env k c,st.n,st.tmp⟩ else if k<1000+st.n then⟨st.env,st.n,fa st.tmp (999+st.n-k) c⟩ else st
def St.push(st:St)(c:D):St:=⟨st.env,st.n+1,c::st.tmp⟩
def St.kill(st:St)(q:D->Bool):St:=⟨ey q st.env,st.n,ey q st.tmp⟩
def St.rd(st:St):X->D
 | .t i=>cB (1000+i) (st.cont (1000+i))
 | .v j=>cB j (st.cont j)
 | .i n=>.int .i64 n
 | .k d=>d
 | .g n=>(gl n).getD .dead
def aX(k:Nat):D->Bool
 | .sub j _=>j == k
 | .aG j _=>j == k
 | _=>false
def fK:D->Bool
 | .sub j _=>decide (1000<=j)
 | .aG j _=>decide (1000<=j)
 | _=>false
def D.hole(c:D)(p:Path):D:=c.setAt p (dp c p)
def D.o?:D->Option D
 | .o x=>some x
 | _=>none
def D.dv:D->Bool
 | .int _ _ | .bool _ | .str _=>true
 | _=>false
def lh:List D->Bool
 | []=>true
 | x::r=>x.dv&&lh r
def ez(f:D->Option D):List D->Option (List D)
 | []=>some []
 | x::r=>(f x).bind fun y=>(ez f r).bind fun l=>some (y::l)
def D.fq:D->Option D
 | .int k n=>some (.int k n)
 | .bool b=>some (.bool b)
 | .str s=>some (.str s)
 | .bd=>some .bd
 | .slice z l=>some (.vw (.slice z l))
 | .ptr l=>some (.vw (.ptr l))
 | .aH z=>some (.slice z [])
 | _=>none
def D.rY:D->Option D
 | .agg l=>(ez D.fq l).bind fun l'=>some (.agg l')
 | x=>x.fq
def D.uN:D->Option D
 | .o x=>some x
 | c=>c.fq
def D.jw:D->Option D
 | .o x=>some x
 | .row z l=>(ez D.rY l).bind fun l'=>some (.slice z l')
 | .box l=>(ez D.uN l).bind fun l'=>some (.ptr l')
 | _=>none
def cR{α:Type}(x:Option α)(K:α->Prop):Prop :=
 match x with
 | some a=>K a
 | none=>False
def eI(k:Nat)(p:Path)(K:D->St->Prop)(st:St):Prop :=
 match p with
 | []=>cR (st.cont k).jw fun x=>K x ((st.kill (aX k)).put k .dead)
 | s::p=>K ((st.cont k).bm (s::p)) ((st.kill (bP k (s::p))).put k (((st.kill (bP k (s::p))).cont k).hole (s::p)))
def nM(k:Nat)(p:Path):D->Prop
 | .sub j q=>j≠k\/apart p q=true
 | .aG j q=>j≠k\/apart p q=true
 | _=>True
def oO(r:List D):D->Prop
 | .sub k p=>cu (nM k p) r
 | _=>True
mutual
def aF:D->(D->St->Prop)->St->Prop
 | .int k n,K,st=>K (.int k n) st
 | .bool b,K,st=>K (.bool b) st
 | .str s,K,st=>K (.str s) st
 | .bd,K,st=>K .bd st
 | .fn f [],K,st=>K (.fn f []) st
 | .fn f (c::r),K,st=>(D.fn f (c::r)).refs (fun _=>False)/\K (.vw (.fn f (c::r))) st
 | .sub k p,K,st=>eI k p K st
 | .agg l,K,st=>cE l (fun l' st=>K (.agg l') st) st
 | .slice z l,K,st=>K (.vw (.slice z l)) st
 | .ptr l,K,st=>K (.vw (.ptr l)) st
 | .aH z,K,st=>K (.slice z []) st
 | .bS,K,st=>K .bS st
 | .bz,K,st=>K .bz st
 | .bE t x,K,st=>K (.bE t x) st
 | _,_,_=>False
def cE:List D->(List D->St->Prop)->St->Prop
 | [],K,st=>K [] st
 | x::r,K,st=>x.refs (oO r)/\aF x (fun x' st=>cE r (fun r' st=>K (x'::r') st) st) st
end
theorem aaU{k:Nat}{p:Path}{K I:D->St->Prop}(S:∀x st,K x st->I x st){st:St}(h:eI k p K st):eI k p I st:=by
 cases p with
 | nil =>
  simp only[eI] at h|-
  cases hc:(st.cont k).jw with
  | none=>rw[hc] at h;exact h.elim
  | some x=>rw[hc] at h;exact S _ _ h
 | cons s p=>simp only[eI] at h|-;exact S _ _ h
mutual
theorem NT:∀(d:D){K K':D->St->Prop}(_:∀x st,K x st->K' x st){st:St},aF d K st->aF d K' st
 | .int _ _,K,K',hK,st,h=>by simp only[aF] at h|-;exact hK _ _ h
 | .bool _,K,K',hK,st,h=>by simp only[aF] at h|-;exact hK _ _ h
 | .str _,K,K',hK,st,h=>by simp only[aF] at h|-;exact hK _ _ h
 | .bd,K,K',hK,st,h=>by simp only[aF] at h|-;exact hK _ _ h
 | .fn _ [],K,K',hK,st,h=>by simp only[aF] at h|-;exact hK _ _ h
 | .slice _ _,K,K',hK,st,h=>by simp only[aF] at h|-;exact hK _ _ h
 | .ptr _,K,K',hK,st,h=>by simp only[aF] at h|-;exact hK _ _ h
 | .aH _,K,K',hK,st,h=>by simp only[aF] at h|-;exact hK _ _ h
 | .bS,K,K',hK,st,h=>by simp only[aF] at h|-;exact hK _ _ h
 | .bz,K,K',hK,st,h=>by simp only[aF] at h|-;exact hK _ _ h
 | .bE _ _,K,K',hK,st,h=>by simp only[aF] at h|-;exact hK _ _ h
 | .mp _ _,K,K',hK,st,h=>by simp only[aF] at h
 | .b6 _ _,K,K',hK,st,h=>by simp only[aF] at h
 | .ia _,K,K',hK,st,h=>by simp only[aF] at h
 | .sb _ _ _,K,K',hK,st,h=>by simp only[aF] at h
 | .pre _ _ _,K,K',hK,st,h=>by simp only[aF] at h
 | .sub k p,K,K',hK,st,h=>by simp only[aF] at h|-;exact aaU hK h
 | .agg l,K,K',hK,st,h=>by simp only[aF] at h|-;exact uY l (fun _ _ h=>hK _ _ h) h
 | .fn _ (_::_),K,K',hK,st,h=>by simp only[aF] at h|-;exact⟨h.1,hK _ _ h.2⟩
 | .av _,K,K',hK,st,h=>by simp only[aF] at h
 | .vw _,K,K',hK,st,h=>by simp only[aF] at h
 | .o _,K,K',hK,st,h=>by simp only[aF] at h
 | .box _,K,K',hK,st,h=>by simp only[aF] at h
 | .row _ _,K,K',hK,st,h=>by simp only[aF] at h
 | .aG _ _,K,K',hK,st,h=>by simp only[aF] at h
 | .when _ _,K,K',hK,st,h=>by simp only[aF] at h
 | .dead,K,K',hK,st,h=>by simp only[aF] at h
theorem uY:∀(l:List D){K K':List D->St->Prop}(_:∀x st,K x st->K' x st){st:St},cE l K st->cE l K' st
 | [],K,K',hK,st,h=>by simp only[cE] at h|-;exact hK _ _ h
 | x::r,K,K',hK,st,h=>by simp only[cE] at h|-;exact⟨h.1,NT x (fun _ _ h=>uY r (fun _ _ h=>hK _ _ h) h) h.2⟩
end
def aV:D->D
 | .vw (.slice z l)=>.slice z l
 | .vw (.ptr l)=>.ptr l
 | .vw (.agg l)=>.agg l
 | .vw (.fn f l)=>.fn f l
 | .vw (.mp ks vs)=>.mp ks vs
 | .vw (.av l)=>.av l
 | .vw _=>.dead
 | .int k n=>.int k n
 | .bool b=>.bool b
 | .str s=>.str s
 | .bd=>.bd
 | .fn f l=>.fn f l
 | .dead=>.dead
 | .bS=>.bS
 | .bz=>.bz
 | .bE t x=>.bE t x
 | d=>.o d
def sy(z:D):List D->Bool
 | []=>true
 | x::r=>decide (x.cells.length=z.cells.length)&&sy z r
def D.sa:D->Nat->Option D
 | .o (.ptr l),n=>some (.ptr (l.drop n))
 | _,_=>none
def ba(ob:Nat->D):Nat->D->Option D
 | 0,_=>none
 | n+1,d=>match d with
  | .sub k p=>(lk ob k).bind fun c=>match c with
   | .row z l=>(ez (ba ob n) l).bind fun l'=>if sy z l'=true then some (.slice z l') else none
   | .box l=>match p with
    | []=>none
    | s::q=>if((D.box l).bm (s::q)).isAgg=true then none else some ((D.box l).bm (s::q))
   | c=>if(c.bm p).isAgg=true then none else some (c.bm p)
  | .pre k p m=>(lk ob k).bind fun c=>match c with
   | .row _ _=>none
   | c=>match c.bm p with
    | .slice z l=>some (.slice z (l.take m))
    | _=>none
  | .aG k p=>(lk ob k).bind fun c=>match c,p with
   | .box l,[(_,off)]=>(ez (ba ob n) l).bind fun l'=>some (.ptr (l'.drop off))
   | .o (.ptr l),[(_,off)]=>some (.ptr (l.drop off))
   | .box l,[(_,off),(_,o2)]=>(l.getD off .dead).sa o2
   | _,_=>none
  | .agg l=>(ez (ba ob n) l).bind fun l'=>some (.agg l')
  | .o x=>some x
  | .aH z=>some (.slice z [])
  | .av _=>none
  | .dead=>none
  | .when _ _=>none
  | .box _=>none
  | .row _ _=>none
  | .fn f l=>(ez (ba ob n) l).bind fun l'=>some (.fn f l')
  | x=>some x
def iR(ob:Nat->D)(rd:X->D):List X->Option (List D)
 | []=>some []
 | x::r=>(ba ob 4 (rd x).core).bind fun y=>(iR ob rd r).bind fun l=>some (y::l)
def eN(rd:X->D):List X->Bool
 | []=>true
 | x::r=>(rd x).gate&&eN rd r
mutual
def D.bA:D->Bool
 | .vw _=>false
 | .bE _ _=>false
 | .slice _ l=>eR l
 | .agg l=>eR l
 | .av l=>eR l
 | .ptr l=>eR l
 | _=>true
def eR:List D->Bool
 | []=>true
 | x::r=>x.bA&&eR r
end
def dW:D->Prop:=fun _=>False
def kW(rd:X->D):List X->Prop
 | []=>True
 | x::r=>(rd x).core.refs dW/\kW rd r
def mb(g:Option Bool)(p:Prop):Prop :=
 match g with
 | none=>p
 | some b=>b=true->p
def qM(g:Option Bool)(v:D):D :=
 match g with
 | none=>v
 | some b=>.when b v
def D.cL:D->Bool
 | .o _ | .box _ | .row _ _ | .when _ _=>false
 | _=>true
def iz(r:Option PR)(g:Option Bool)(K:St->Prop)(st:St):Prop :=
 match r with
 | none=>g=some false/\K (st.push (.when false (.bool false)))
 | some (side,res)=>mb g side/\res.cL=true/\K (st.push (qM g res))
def fo(r:Option PR)(g:Option Bool)(K:St->Prop)(st:St):Prop :=
 match g,r with
 | none,some (side,c)=>side/\K (st.push c)
 | _,_=>False
def D.fX:D->Option D
 | .int k n=>some (.int k n)
 | .bool b=>some (.bool b)
 | .str s=>some (.str s)
 | .bd=>some .bd
 | .slice z l=>some (.slice z l)
 | .ptr l=>some (.ptr l)
 | .aH z=>some (.slice z [])
 | .fn f []=>some (.fn f [])
 | .mp ks vs=>some (.mp ks vs)
 | .bS=>some .bS
 | .bz=>some .bz
 | .bE t x=>some (.bE t x)
 | _=>none
def qg:List D->Bool
 | []=>true
 | x::r=>x.pc&&qg r
def yg(n:Nat)(x:D):Option PR:=x.core.cellsOf.bind fun l=>some ((x.gate=true/\0<n/\qg l=true)/\l.length=n,.box l)
def yh(n:Nat)(x:D):Option PR:=x.core.cellsOf.bind fun l=>(ez D.fX l).bind fun l'=>some (x.gate=true/\l.length=n,.ptr l')
def zL(z:D)(bytes:Nat)(l c:D):Option PR :=
 l.core.int?.bind fun a=>c.core.int?.bind fun b=>some ((l.gate=true/\c.gate=true)/\0<=a/\a<=b/\bytes*b<=281474976710656,.o (.slice z (List.replicate a.toNat z)))
def mJ(rd:X->D)(sz:Nat):List D->List (Nat×X)->Option (Bool×List D)
 | es,[]=>some (true,es)
 | es,(i,x)::r=>(rd x).core.cellsOf.bind fun l =>
  if l.length=sz/\i<es.length/\qg l=true then(mJ rd sz (fa es i (rd x).core) r).bind fun p=>some ((rd x).gate&&p.1,p.2) else none
def four:List D->Bool
 | []=>false
 | [_]=>false
 | [_,_]=>false
 | [_,_,_]=>false
 | _::_::_::_::_=>true
def Bi:Bool->D->List D->D
 | true,z,l=>.o (.slice z l)
 | false,z,l=>.row z l
def sV(rd:X->D)(z:D)(n:Nat)(parts:List (Nat×X)):Option PR :=
 match n,parts with
 | 0,[]=>some (True,.o (.slice z []))
 | 0,_=>none
 | n+1,parts=>(mJ rd z.cells.length (List.replicate (n+1) z) parts).bind fun p=>some (p.1=true,Bi (four p.2&&lh p.2) z p.2)
def Bg(x:D):Option PR:=x.core.oY.bind fun s=>some (x.gate=true,.o (.b6 s 0))
def yA(x:D):Option PR:=x.core.oY.bind fun s=>some (x.gate=true/\s.length<=140737488355328,.o (sZ s))
def zJ(T e:TypeId)(x:D):Option PR :=
 match x.core with
 | .agg [.bd,.aH _]=>some (x.gate=true,.o (.sb T e []))
 | _=>none
def bX(k:Kp)(rd:X->D):Option PR :=
 match k with
 | .gM x=>yA (rd x)
 | .box n x=>yg n (rd x)
 | .fP n x=>yh n (rd x)
 | .fc zs=>some (zs≠[],.box zs)
 | .ah z bytes l c=>zL z bytes (rd l) (rd c)
 | .aU z n parts=>sV rd z n parts
 | .gV=>some (True,.o (.mp [] []))
 | .gU T e x=>zJ T e (rd x)
 | .e8 x=>Bg (rd x)
 | _=>none
def fB(P:Program)(f:FuncId):Bool:=match P.funcs[f]? with
 | some fn=>fn.body.isSome&&!(fn.name == "runtime.NumGoroutine")
 | none=>false
def bn[Mode](P:Program)(f:FuncId)(as gs:List D)(Q:D->List D->Prop):Prop :=
 fB P f=true/\∀(w:World)(A:Nat->Prop)(vs:Array Value)(gv:Nat->Value)(Fs:Nat->Nat->Prop),ik w A->(∀b,A b->b<w.heap.size)->vs.size=as.length ->
  (∀(j:Nat)(a:D),as[j]?=some a->Pl w A (ai w (nth gs) gv) (vs.getD j undef) a) ->
  (∀k,aN w A (ai w (nth gs) gv) (gv k) (Fs k) (nth gs k))->(∀k,(nth gs k).isObj=false->∀b,¬Fs k b) ->
  (∀i j b,i≠j->Fs i b->¬Fs j b)->(∀k b,Fs k b->b<w.heap.size/\¬A b) ->
  Calls P f vs w fun e w'=>∃(rc:D)(S:List D)(v:Value)(F:Nat->Prop)(V:Nat->Value)(I:Nat->Nat->Prop),Q rc S/\e=.returned v/\w.heap.size<=w'.heap.size /\
   aN w' (fun b=>A b\/(w.heap.size<=b/\b<w'.heap.size/\¬F b/\∀j,¬I j b)) (ai w' (nth S) V) v F rc/\(rc.isObj=false->∀b,¬F b) /\
   (∀k,aN w' (fun b=>A b\/(w.heap.size<=b/\b<w'.heap.size/\¬F b/\∀j,¬I j b)) (ai w' (nth S) V) (V k) (I k) (nth S k))/\(∀k,(nth S k).isObj=false->∀b,¬I k b) /\
   (∀k,nth gs k≠.dead->V k=gv k) /\
   (∀b,F b->b<w'.heap.size/\(w.heap.size<=b\/∃j,Fs j b)/\∀j,¬I j b)/\(∀j b,I j b->b<w'.heap.size/\(w.heap.size<=b\/∃j,Fs j b))/\(∀i j b,i≠j->I i b->¬I j b) /\
   (∀b,b<w.heap.size->(∀j,¬Fs j b)->w'.heap[b]?=w.heap[b]?)/\w'.os=w.os/\w'.tape=w.tape/\c6 w w'
def lE[Mode](P:Program)(f:FuncId)(as gs:List D)(rc:D)(I:List D):Prop:=bn P f as gs fun r g=>r=rc/\g=I
theorem bn.imp[Mode]{P:Program}{f:FuncId}{as gs:List D}{Q W:D->List D->Prop}(h:bn P f as gs Q)(hQ:∀r g,Q r g->W r g):bn P f as gs W :=
 ⟨h.1,fun w A vs gv Fs Y h1 Z h3 h4 h5 h6 h7=>(h.2 w A vs gv Fs Y h1 Z h3 h4 h5 h6 h7).mono fun _ _ ⟨rc,S,v,F,V,I,q,r⟩=>⟨rc,S,v,F,V,I,hQ _ _ q,r⟩⟩
def NM[Mode](P:Program)(f:FuncId)(as gs:List D)(rc:D):Prop :=
 fB P f=true/\∀(w:World)(A:Nat->Prop)(vs:Array Value)(gv:Nat->Value)(Fs:Nat->Nat->Prop),ik w A->(∀b,A b->b<w.heap.size)->vs.size=as.length ->
  (∀(j:Nat)(a:D),as[j]?=some a->Pl w A (ai w (nth gs) gv) (vs.getD j undef) a) ->
  (∀k,aN w A (ai w (nth gs) gv) (gv k) (Fs k) (nth gs k))->(∀k,(nth gs k).isObj=false->∀b,¬Fs k b) ->
  (∀i j b,i≠j->Fs i b->¬Fs j b)->(∀k b,Fs k b->b<w.heap.size/\¬A b) ->
  Calls P f vs w fun e w'=>∃v:Value,e=.returned v/\w.heap.size<=w'.heap.size/\(∀b,b<w.heap.size->w'.heap[b]?=w.heap[b]?) /\
   Pl w' (fun b=>A b\/(w.heap.size<=b/\b<w'.heap.size)) (ai w (nth gs) gv) v rc/\w'.os=w.os/\w'.tape=w.tape/\c6 w w'
mutual
def D.tight:D->Bool
 | .int _ _=>true
 | .bool _=>true
 | .str _=>true
 | .bd=>true
 | .aH _=>true
 | .dead=>true
 | .sub _ _=>true
 | .aG _ _=>true
 | .fn _ l=>ml l
 | .agg l=>ml l
 | .av l=>ml l
 | _=>false
def ml:List D->Bool
 | []=>true
 | x::r=>x.tight&&ml r
end
def D.pb:D->Bool
 | .o x=>x.bA
 | c=>c.tight
def sA:List D->Bool
 | []=>true
 | x::r=>x.pb&&sA r
def D.iF:D->Bool
 | .box l=>sA l
 | .row _ l=>ml l
 | c=>c.pb
def lv:List D->Bool
 | []=>true
 | x::r=>x.iF&&lv r
class KH where
 k:St->Prop
def D.FL:D->D
 | .vw d=>d
 | d=>d
def D.vy:D->D
 | .agg l=>.agg (l.map D.FL)
 | d=>d
theorem Xg{w:World}{A:Nat->Prop}{v:Value}{d:D}(h:Rd w A v d):Rd w A v d.FL:=by
 cases d<;>first | exact h | (cases h;assumption)
theorem I2{w:World}{A:Nat->Prop}{v:Value}{d:D}(h:Rd w A v d):Rd w A v d.vy:=by
 cases d with
 | agg l =>
  cases h with
  | agg V S =>
   refine .agg (by rw[List.length_map];exact V) fun j x I=>?_
   rw[List.getElem?_map,Option.map_eq_some_iff] at I;obtain⟨y,W,rfl⟩:=I;exact Xg (S j y W)
 | _=>exact h
def yk(g:Option Bool)(res c:D):Prop :=
 match g with
 | none=>c=aV res\/c=aV (.vw res)
 | some b=>c=.when b res\/c=.when b res.vy
def nS[Mode](P:Program)(f:FuncId)(ds:Option (List D))(gt:Bool)(pl:Prop)(g:Option Bool)[K:KH](st:St):Prop :=
 ∃l res c,ds=some l/\mb g (gt=true/\aA P f (l.map .v) res/\(res.bA=true\/pl))/\yk g res c/\K.k (st.push c)
def D.yZ(c:D)(p:Path)(y:D):D:=c.setAt p (if bD c p=true then .o y else y)
def rr(x:D)(r:List D)(y:D)(K:St->Prop)(st:St):Prop :=
 match x with
 | .sub k (s::p)=>y.isAgg=false/\cu (fun d=>bP k (s::p) d=false) r/\K ((st.kill (bP k (s::p))).put k (((st.kill (bP k (s::p))).cont k).yZ (s::p) y))
 | _=>K st
def gm:List D->List D->(St->Prop)->St->Prop
 | [],[],K,st=>K st
 | x::r,y::ys,K,st=>rr x r y (gm r ys K) st
 | _,_,_,_=>False
def pL[Mode](P:Program)(f:FuncId)(d:D)(ds:Option (List D))(gt:Bool)(pl:Prop)(g:Option Bool)[K:KH](st:St):Prop :=
 g=none/\gt=true/\pl/\∃dl,ds=some dl/\match d with
  | .aG k [(0,0)]=>∃l l' res,st.cont k=.box l/\cu dW l/\cu dW l'/\l'.length=l.length/\aA P f (.io (.box l) (.box l')::dl.map .v) res/\K.k (((st.kill (bB k [(0,0)])).put k (.box l')).push (aV res))
  | .sub k []=>∃x y res,st.cont k=.o x/\aA P f (.io (.o x) (.o y)::dl.map .v) res/\K.k (((st.kill (bP k [])).put k (.o y)).push (aV res))
  | .sub k (s::p)=>cE [.sub k (s::p)] (fun l st=>∃x y res,l=[x]/\aA P f (.io (.o x) (.o y)::dl.map .v) res/\gm [.sub k (s::p)] [y] (fun st=>K.k (st.push (aV res))) st) st
  | .agg l=>cE l (fun xs st=>∃ys res,aA P f (.io (.o (.agg xs)) (.o (.agg ys))::dl.map .v) res/\gm l ys (fun st=>K.k (st.push (aV res))) st) st
  | _=>False
def sg(n:Nat)(I:List Nat)(i:Nat):Nat:=(I[i]?).getD (1000+n+i)
def kN(st:St)(σ:Nat->Nat):List Nat->List D->Prop
 | [],[]=>True
 | j::js,g::gs=>st.cont j=g.aD σ/\kN st σ js gs
 | _,_=>False
def kq(st:St)(σ:Nat->Nat)(I:List Nat)(S:Bool):List D->List D->Prop
 | [],[]=>True
 | d::ds,a::as=>(d=a.aD σ\/(S=true/\ba (fun k=>if I.contains k=true then .dead else st.cont k) 4 d=some a))/\kq st σ I S ds as
 | _,_=>False
def xi:D->D->Bool
 | .o _,.o _=>true
 | _,_=>false
def uH:D->D->Bool
 | .box l,.box l'=>l.length == l'.length
 | _,_=>false
def qm(j:Nat)(g h:D):D->Bool
 | .sub k p=>k == j&&!(p.isEmpty&&xi g h)
 | .aG k p=>k == j&&!(p.length == 1&&uH g h)
 | _=>false
def qG:List Nat->List D->List D->D->Bool
 | j::js,g::gs,h::hs,d=>qm j g h d || qG js gs hs d
 | _,_,_,_=>false
def gB(σ:Nat->Nat)(st:St):List Nat->List D->St
 | j::js,h::hs=>gB σ (st.put j (h.aD σ)) js hs
 | _,_=>st
def kQ:List D->List D->Prop
 | [],[]=>True
 | g::gs,h::hs=>(g=.dead->h=.dead)/\kQ gs hs
 | _,_=>False
def Gn[Mode](P:Program)(f:FuncId)(ds:List D)(st:St)(K:D->St->Prop):Prop :=
 ∃(S:List Nat)(V:Bool)(as gs:List D)(Q:D->List D->Prop),bn P f as gs Q/\(S.Nodup/\S.all (fun j=>decide (j<1000+st.n))=true)/\kN st (sg st.n S) S gs/\kq st (sg st.n S) S V ds as /\
  ∀rc I,Q rc I->kQ gs I/\(V=true->rc.iF=true/\lv I=true)/\K (rc.aD (sg st.n S)) (gB (sg st.n S) (st.kill (qG S gs I)) S I)
def Wq[Mode](P:Program)(f:FuncId)(ds:List D)(st:St)(K:D->Prop):Prop :=
 ∃l res,ez (ba st.cont 4) ds=some l/\fB P f=true/\aA P f ((ei l).map .v) res/\res.bA=true/\K (aV res)
def mM[Mode](P:Program)(f:FuncId)(ds:List D)(gt:Bool)(gd:Bool)[K:KH](st:St):Prop :=
 gt=true/\((Gn P f ds st fun c st=>(gd=true->c.cL=true)/\K.k (st.push (if gd=true then .when true c else c)))\/(gd=false/\Wq P f ds st fun c=>K.k (st.push c)))
def lP[Mode](P:Program)(x:D)(ds:List D)(gt:Bool)(gd:Bool)[KH](st:St):Prop :=
 match x with
 | .fn f caps=>mM P f (ds++caps) gt gd st
 | _=>False
def jK[Mode](P:Program)(x:D)(ds:List D)(gt:Bool)(g:Option Bool)[K:KH](st:St):Prop :=
 match g with
 | none=>lP P x ds gt false st
 | some true=>lP P x ds gt true st
 | some false=>K.k (st.push (.when false (.bool false)))
theorem PH[Mode]{P:Program}{x:D}{ds:List D}{gt:Bool}{b:Bool}{K:KH}{st:St}(S:b=true->lP P x ds gt true st)(I:b=false->K.k (st.push (.when false (.bool false)))):jK P x ds gt (some b) st:=by
 cases b
 ·exact I rfl
 ·exact S rfl
def fY(rd:X->D):List X->List D
 | []=>[]
 | x::r=>(rd x).core::fY rd r
theorem Wr[Mode]{P:Program}{f:FuncId}{ds l xs:List D}{K:St->Prop}{st:St}{res:D}(W:ez (ba st.cont 4) ds=some l)(Z:ei l=xs)(V:fB P f=true)(S:aA P f (xs.map .v) res)(Y:res.bA=true)(I:K (st.push (aV res))):@mM _ P f ds true false ⟨K⟩ st :=
 ⟨rfl,.inr ⟨rfl,l,res,W,V,Z▸S,Y,I⟩⟩
theorem Qi[Mode]{P:Program}{f:FuncId}{ds:List D}{K:St->Prop}{st:St}{as gs I:List D}{rc:D}(S:List Nat)(V:Bool)(Y:lE P f as gs rc I)(hn:S.Nodup/\S.all (fun j=>decide (j<1000+st.n))=true)(hl:kN st (sg st.n S) S gs)(Z:kq st (sg st.n S) S V ds as)
  (hw:kQ gs I) (ht:V=true->rc.iF=true/\lv I=true) (W:K ((gB (sg st.n S) (st.kill (qG S gs I)) S I).push (rc.aD (sg st.n S)))):@mM _ P f ds true false ⟨K⟩ st :=
 ⟨rfl,.inl ⟨S,V,as,gs,_,Y,hn,hl,Z,fun _ _ h=>by obtain⟨rfl,rfl⟩:=h;exact⟨hw,ht,fun h=>(by cases h),W⟩⟩⟩
theorem PJ[Mode]{P:Program}{f:FuncId}{ds:List D}{K:St->Prop}{st:St}{as gs:List D}{Q:D->List D->Prop}(S:List Nat)(W:Bool)(Y:bn P f as gs Q)(hn:S.Nodup/\S.all (fun j=>decide (j<1000+st.n))=true)(hl:kN st (sg st.n S) S gs)(Z:kq st (sg st.n S) S W ds as)
  (V:∀rc I,Q rc I->kQ gs I/\(W=true->rc.iF=true/\lv I=true)/\K ((gB (sg st.n S) (st.kill (qG S gs I)) S I).push (rc.aD (sg st.n S)))):@mM _ P f ds true false ⟨K⟩ st :=
 ⟨rfl,.inl ⟨S,W,as,gs,_,Y,hn,hl,Z,fun _ _ h=>⟨(V _ _ h).1,(V _ _ h).2.1,fun h=>(by cases h),(V _ _ h).2.2⟩⟩⟩
theorem FN[Mode]{P:Program}{f:FuncId}{ds:List D}{gt:Bool}{K:St->Prop}{st:St}{as gs:List D}{Q:D->List D->Prop}(I:List Nat)(Y:Bool)(W:gt=true)(Z:bn P f as gs Q)(hn:I.Nodup/\I.all (fun j=>decide (j<1000+st.n))=true)(hl:kN st (sg st.n I) I gs)(ha:kq st (sg st.n I) I Y ds as)
  (V:∀rc S,Q rc S->kQ gs S/\(Y=true->rc.iF=true/\lv S=true)/\(rc.aD (sg st.n I)).cL=true/\K ((gB (sg st.n I) (st.kill (qG I gs S)) I S).push (.when true (rc.aD (sg st.n I))))):@mM _ P f ds gt true ⟨K⟩ st :=
 ⟨W,.inl ⟨I,Y,as,gs,_,Z,hn,hl,ha,fun _ _ h=>⟨(V _ _ h).1,(V _ _ h).2.1,fun _=>(V _ _ h).2.2.1,(V _ _ h).2.2.2⟩⟩⟩
def sj(I:List Nat)(i:Nat):Nat:=(I[i]?).getD 0
def zl(n:Nat):D->Prop
 | .sub k _=>k<n
 | .aG k _=>k<n
 | _=>True
def v8(ob:Nat->D)(σ:Nat->Nat):List Nat->List D->Prop
 | [],[]=>True
 | j::js,g::gs=>(j<1000/\ob j=g.aD σ)/\v8 ob σ js gs
 | _,_=>False
def EJ(σ:Nat->Nat):List D->List D->Prop
 | [],[]=>True
 | d::ds,a::as=>d=a.aD σ/\EJ σ ds as
 | _,_=>False
def xL[Mode](P:Program)(f:FuncId)(ob:Nat->D)(ds:List D)(c:D):Prop :=
 ∃(I:List Nat)(as gs:List D)(rc:D),NM P f as gs rc/\I.Nodup/\v8 ob (sj I) I gs/\EJ (sj I) ds as/\(cu (zl I.length) as/\cu (zl I.length) gs/\rc.refs (zl I.length))/\rc.cL=true/\c=rc.aD (sj I)
def lM(d:D)(K:D->St->Prop)(st:St):Prop :=
 match d with
 | .aG j [(0,0)]=>((st.kill (aX j)).cont j).isObj=true/\(st.cont j).iT=false/\K ((st.kill (aX j)).cont j) ((st.kill (aX j)).put j .dead)
 | _=>False
def nN(j:Nat)(x:D)(K:St->Prop)(st:St):Prop :=
 aF x (fun d st=>K (((st.kill (aX j)).put j (aV d)).push .dead)) st
def D.oF:D->Bool
 | .o _ | .box _ | .row _ _ | .when _ _ | .dead=>false
 | _=>true
def qU(j:Nat)(x:D)(K:St->Prop)(st:St):Prop :=
 x.refs (cH j)/\x.oF=true/\K (((st.kill (aX j)).put j x).push .dead)
def jy:Path->Path
 | []=>[]
 | [_]=>[]
 | s::t::r=>s::jy (t::r)
def mY:Path->Bool
 | []=>false
 | [s]=>s.1 == 0&&s.2 == 0
 | _::t::r=>mY (t::r)
def D.tv:D->Bool
 | .ptr _=>true
 | _=>false
def mo(j:Nat)(x:D)(K:St->Prop)(st:St):Prop :=
 match x with
 | .aG k q=>mY q=true/\eI k (jy q) (fun d st=>d.tv=true/\K (((st.kill (aX j)).put j (aV d)).push .dead)) st
 | x=>nN j x K st
theorem Hc:∀{q:Path},mY q=true->q=jy q++[(0,0)]
 | [],h=>by cases h
 | [(a,b)],h=>by
  simp only[mY,Bool.and_eq_true,beq_iff_eq] at h;rw[h.1,h.2];rfl
 | s::t::r,h=>by
  have:=Hc (q:=t::r) h;show s::t::r=s::(jy (t::r)++[(0,0)]);rw[<-this]
def Bk(k:Nat)(p:Path):D->Prop
 | .sub j q=>j≠k\/(q≠[]/\ir q p=false)
 | _=>True
def df(c:D)(p:Path):Nat->List D->D
 | _,[]=>c
 | j,y::r=>df (c.setAt (bump p j) (if bD c (bump p j)=true then aV y else y)) p (j+1) r
def nk(c:D)(p:Path):Nat->List D->Prop
 | _,[]=>True
 | j,y::r=>c.aZ (bump p j)/\y.isAgg=false/\nk c p (j+1) r
def D.qS:D->Bool
 | .aG _ _=>true
 | _=>false
def qJ(k:Nat)(p:Path)(x:D)(K:St->Prop)(st:St):Prop :=
 match x with
 | .aG j q=>mY q=true/\j≠k/\eI j (jy q) (fun d st=>d.tv=true/\nk ((st.kill (bB k p)).cont k) p 0 [d] /\
    K (((st.kill (bB k p)).put k (df ((st.kill (bB k p)).cont k) p 0 [d])).push .dead)) st
 | _=>False
def nB(b:Bool)(n k:Nat)(p:Path)(x:D)(K:St->Prop)(st:St):Prop :=
 match b with
 | true=>n=1/\qJ k p x K st
 | false=>cR x.cellsOf fun l=>l.length=n/\cu (Bk k p) l/\cE l (fun l' st=>nk ((st.kill (bB k p)).cont k) p 0 l' /\
    K (((st.kill (bB k p)).put k (df ((st.kill (bB k p)).cont k) p 0 l')).push .dead)) st
def lq(n:Nat)(a x:D)(K:St->Prop)(st:St):Prop :=
 match a with
 | .aG k p=>nB x.qS n k p x K st
 | _=>False
def D.iC:D->Bool
 | .int _ _ | .bool _ | .str _ | .bd | .slice _ _ | .ptr _ | .aH _ | .sub _ _ | .aG _ _=>true
 | _=>false
def qy:List D->Bool
 | []=>true
 | x::r=>x.iC&&qy r
def D.sY:D->Option (List D)
 | .box l=>some l
 | _=>none
def pP:Path->Bool
 | []=>false
 | [s]=>s.1 == 0&&s.2 == 0
 | _::_::_=>false
theorem QY:∀{p:Path},pP p=true->p=[(0,0)]
 | [],h=>by cases h
 | [(a,b)],h=>by
  simp only[pP,Bool.and_eq_true,beq_iff_eq] at h;rw[h.1,h.2]
 | _::_::_,h=>by cases h
def sx(b:Bool)(n k:Nat)(p:Path)(x:D)(K:St->Prop)(st:St):Prop :=
 match b with
 | true=>cR (st.cont k).sY fun I=>I.length=n/\cR x.cellsOf fun l=>l.length=n/\qy l=true/\cu (fun d=>bB k [(0,0)] d=false) l /\
   K (((st.kill (bB k [(0,0)])).put k (.box l)).push .dead)
 | false=>nB x.qS n k p x K st
def oX(n:Nat)(a x:D)(K:St->Prop)(st:St):Prop :=
 match a with
 | .aG k p=>sx (pP p) n k p x K st
 | _=>False
def D.kz:D->Option (List D)
 | .slice _ l=>some l
 | .aH _=>some []
 | _=>none
def qH(st:St)(x:D):Option (List D) :=
 match x with
 | .sub k p=>(lk st.cont k).bind fun c=>(c.bm p).kz
 | x=>x.kz
def D.dh(y:D)(M:List D):D :=
 match y with
 | .slice z L=>.slice z (L++M)
 | y=>y
def D.row?:D->Option (List D)
 | .row _ l=>some l
 | _=>none
def isRow(st:St)(x:D):Option (List D) :=
 match x with
 | .sub k []=>(st.cont k).row?
 | _=>none
def iO(s:D)(K:D->St->Prop)(st:St):Prop :=
 match s with
 | .sub k p=>eI k p K st
 | .aH z=>K (.slice z []) st
 | _=>False
def ve(st:St)(x:D):Option (List D ⊕ List D) :=
 match isRow st x with
 | some l=>some (.inl l)
 | none=>(qH st x).bind fun M=>some (.inr M)
def tU(sz:Nat):List D->Prop
 | []=>True
 | e::r=>e.cells.length=sz/\tU sz r
def D.rF:D->Bool
 | .slice _ _=>true
 | _=>false
def D.ix:D->Bool
 | .int _ _ | .bool _ | .str _ | .slice _ _ | .bd | .ptr _ | .mp _ _ | .bS | .bE _ _ | .bz=>true
 | _=>false
def oy:List D->Bool
 | []=>true
 | x::r=>x.ix&&oy r
def D.wo(sz:Nat)(e:D):Bool:=decide (e.cells.length=sz)&&oy e.cells
def D.rR:D->Bool
 | .slice z _=>z.rF || z.isAgg
 | _=>false
def D.zN:D->Bool
 | .o x=>x.rR
 | _=>false
def pY(st:St)(x:D):Option (Nat×Path) :=
 match x with
 | .sub k []=>if(st.cont k).zN=true then some (k,[]) else none
 | .sub k (q::p)=>if((st.cont k).bm (q::p)).rR=true then some (k,q::p) else none
 | _=>none
def pk(sz bytes:Nat)(s x:D)(K:St->Prop)(st:St):Prop :=
 match pY st x with
 | some k=>x.refs (oO [s])/\eI k.1 k.2 (fun y st=>y.gN=sz/\cR y.kz fun M=>(∀e∈M,e.wo sz=true) /\
   iO s (fun y st=>y.gN=sz/\cR y.cA fun m=>(m+M.length)*bytes<=140737488355328/\K (st.push (.o (y.dh M)))) st) st
 | none=>cR (ve st x) fun src=>match src with
 | .inl l=>tU sz l/\cu (oO [s]) l/\cE l (fun M st=>iO s (fun y st=>y.gN=sz/\cR y.cA fun m=>(m+M.length)*bytes<=140737488355328/\K (st.push (.o (y.dh M)))) st) st
 | .inr M=>(∀e∈M,e.dv=true)/\sz=1/\x.refs (oO [s])/\iO s (fun y st=>y.gN=sz/\cR y.cA fun m=>(m+M.length)*bytes<=140737488355328/\K (st.push (.o (y.dh M)))) st
def ga:List D->List D->(List D->St->Prop)->St->Prop
 | done,[],K,st=>K done st
 | done,.sub k p::r,K,st=>cu (nM k p) (done++r)/\eI k p (fun x st=>ga (done++[aV x]) r K st) st
 | done,x::r,K,st=>x.pc=true/\ga (done++[x]) r K st
def qY(n:Nat)(x:D)(K:St->Prop)(st:St):Prop :=
 match x.cellsOf with
 | none=>False
 | some l=>(l.length=n/\0<n)/\ga [] l (fun l' st=>K (st.push (.box l'))) st
def qW(z x:D)(K:St->Prop)(st:St):Prop :=
 match x.cellsOf with
 | none=>False
 | some l=>l.length=z.cells.length/\cE l (fun l' st=>K (st.push (.o (.slice z [.agg l'])))) st
def pZ:List D->Bool
 | []=>true
 | x::r=>!x.isAgg&&pZ r
def qX(z:D)(r:Option (Bool×List D))(K:St->Prop)(st:St):Prop :=
 match r with
 | none=>False
 | some (g,l)=>g=true/\z.cells.length=1/\pZ l=true/\cE l (fun l' st=>K (st.push (.o (.slice z l')))) st
def Fz(d s:D)[K:KH](st:St):Prop :=
 match d with
 | .sub k (q::p)=>∃M,qH st s=some M/\(∀e∈M,e.dv=true)/\cE [.sub k (q::p)] (fun l st=>∃z L,l=[.slice z L]/\(z.cells.length=1/\∀e∈L,e.dv=true) /\
   gm [.sub k (q::p)] [.slice z (M.take L.length++L.drop M.length)] (fun st=>K.k (st.push (.int .i64 (min M.length L.length:Nat)))) st) st
 | _=>False
def pX(kk:Nat)(m k v:D)[K:KH](st:St):Prop :=
 k.kK kk=true/\v.dv=true/\match m with
 | .sub j []=>cR ((st.cont j).o?.bind D.kP) fun e=>cR (fV k e.1) fun r=>e.1.length<maxLen/\K.k ((st.put j (.o (.mp (cQ k v e.1 e.2 r).1 (cQ k v e.1 e.2 r).2))).push .dead)
 | .sub j (s::p)=>cE [.sub j (s::p)] (fun l st=>cR ((l.head?).bind D.kP) fun e=>cR (fV k e.1) fun r=>e.1.length<maxLen /\
   gm [.sub j (s::p)] [.mp (cQ k v e.1 e.2 r).1 (cQ k v e.1 e.2 r).2] (fun st=>K.k (st.push .dead)) st) st
 | _=>False
def kf(s:List UInt8)(p:Nat):Nat×Nat:=Utf8.decode ⟨s.toArray⟩ p
def D.tw:D->Option (List UInt8×Nat)
 | .o (.b6 s p)=>some (s,p)
 | _=>none
def qa(j:Nat)[K:KH](st:St):Prop :=
 cR (st.cont j).tw fun e=>(e.2<e.1.length->K.k ((st.put j (.o (.b6 e.1 (e.2+(kf e.1 e.2).2)))).push (.av [.bool true,.int .i64 e.2,.int .i32 (kf e.1 e.2).1]))) /\
  (e.1.length<=e.2->K.k (st.push (.av [.bool false])))
def td(I:Nat):Nat->List D->Prop
 | _,[]=>True
 | j,d::r=>d.refs (cH I)/\(cB j d).core.refs (cH I)/\td I (j+1) r
def yc(sz bytes b s:Nat)(K:St->Prop)(st:St):Prop :=
 sz=1/\cR (st.cont (1000+s)).row? fun l=>lh l=true/\cR (st.cont (1000+b)).o? fun y=>y.gN=1/\cR y.cA fun m=>(m+l.length)*bytes<=140737488355328 /\
  td (1000+b) 0 st.env/\cu (cH (1000+b)) st.tmp/\K ((st.put (1000+b) .dead).push (.o (y.dh l)))
def br[Mode](P:Program)(k:Kp)(g:Option Bool)(K:St->Prop)(st:St):Prop :=
 match k with
 | .ch j x=>g=none/\(st.rd x).gate=true/\nN j (st.rd x).core K st
 | .kr j x=>g=none/\(st.rd x).gate=true/\qU j (st.rd x).core K st
 | .call f xs=>@nS _ P f (iR st.cont st.rd xs) (eN st.rd xs) (kW st.rd xs) g ⟨K⟩ st
 | .st a x=>g=none/\((st.rd a).gate&&(st.rd x).gate)=true/\lq 1 (st.rd a).core (st.rd x).core K st
 | .eh n a x=>g=none/\((st.rd a).gate&&(st.rd x).gate)=true/\lq n (st.rd a).core (st.rd x).core K st
 | .mj n a x=>g=none/\((st.rd a).gate&&(st.rd x).gate)=true/\oX n (st.rd a).core (st.rd x).core K st
 | .app sz bytes s x=>g=none/\((st.rd s).gate&&(st.rd x).gate)=true/\pk sz bytes (st.rd s).core (st.rd x).core K st
 | .jh f (x::r)=>@pL _ P f (st.rd x).core (iR st.cont st.rd r) (eN st.rd (x::r)) (kW st.rd r) g ⟨K⟩ st
 | .jh _ []=>False
 | .dyn x xs=>@jK _ P (st.rd x).core (fY st.rd xs) (eN st.rd (x::xs)) g ⟨K⟩ st
 | .my n x=>g=none/\(st.rd x).gate=true/\qY n (st.rd x).core K st
 | .bo x=>g=none/\(st.rd x).gate=true/\lM (st.rd x).core (fun c st=>K (st.push c)) st
 | .eK sz bytes b s=>g=none/\yc sz bytes b s K st
 | .ng kk m k v=>g=none/\((st.rd m).gate&&(st.rd k).gate&&(st.rd v).gate)=true/\@pX kk (st.rd m).core (st.rd k).core (st.rd v).core ⟨K⟩ st
 | .ni j=>g=none/\@qa j ⟨K⟩ st
 | .e8 x=>fo (bX (.e8 x) st.rd) g K st
 | .gM x=>fo (bX (.gM x) st.rd) g K st
 | .box n x=>fo (bX (.box n x) st.rd) g K st
 | .fP n x=>fo (bX (.fP n x) st.rd) g K st
 | .fc zs=>fo (bX (.fc zs) st.rd) g K st
 | .ah z b l c=>fo (bX (.ah z b l c) st.rd) g K st
 | .aU z n ps=>fo (bX (.aU z n ps) st.rd) g K st
 | .gV=>fo (bX .gV st.rd) g K st
 | .mu z x=>g=none/\(st.rd x).gate=true/\qW z (st.rd x).core K st
 | .mw z n ps=>g=none/\qX z (mJ st.rd z.cells.length (List.replicate n z) ps) K st
 | .ku j x=>g=none/\(st.rd x).gate=true/\mo j (st.rd x).core K st
 | .gU T e x=>fo (bX (.gU T e x) st.rd) g K st
 | k=>iz (bO k st.rd st.cont) g K st
def D.bool?:D->Option Bool
 | .bool b=>some b
 | _=>none
def gd(c:D)(want:Bool):Option Bool:=c.core.bool?.bind fun b=>some (c.gate&&(if want then b else !b))
def kG(v:Option Bool)(K:Bool->Prop):Prop :=
 match v with
 | some b=>K b
 | none=>False
def cw[Mode](P:Program)(K:St->Prop):List bh->St->Prop
 | [],st=>K st
 | ⟨none,k⟩::r,st=>br P k none (cw P K r) st
 | ⟨some (j,want),k⟩::r,st=>kG (gd (st.rd (.t j)) want) fun b=>br P k (some b) (cw P K r) st
structure Ex where
 ex:Nat->List D->Prop
 ret:List D->Prop
def jJ(v:D)(A B:Prop):Prop :=
 match v with
 | .bool b=>(b=true->A)/\(b=false->B)
 | _=>False
def c7:List Nat->St->St
 | [],st=>st
 | j::r,st=>c7 r ((st.kill (aX j)).put j .dead)
def kA:List (Nat×Nat)->St->St
 | [],st=>st
 | (j,i)::r,st=>kA r ((((st.kill (aX j)).kill (aX (1000+i))).put j ((((st.kill (aX j)).kill (aX (1000+i)))).cont (1000+i))).put (1000+i) .dead)
def Aw(i k:Nat)(x:Option D)(st:St):St :=
 match x with
 | some x=>(((st.kill (aX k)).put k .dead).kill (aX (1000+i))).put (1000+i) (aV x)
 | none=>st
def kU(i:Nat)(c:D)(st:St):St :=
 match c with
 | .sub k (s::p)=>if 1000<=k then(((st.kill (bP k (s::p))).put k (((st.kill (bP k (s::p))).cont k).hole (s::p))).kill (aX (1000+i))).put (1000+i) (aV ((st.cont k).bm (s::p))) else st
 | .sub k []=>if 1000<=k then Aw i k (st.cont k).jw st else st
 | _=>st
def jo:List (Nat×Nat)->St->St
 | [],st=>st
 | (_,i)::r,st=>jo r (kU i (st.cont (1000+i)) st)
def fin(post:List (Nat×Nat))(st:St):List D:=((kA post (jo post st)).kill fK).env
class LH where
 body:(List D->Prop)->Ex->List D->Prop
 E:Ex
def wc[h:LH](env:List D):Prop :=
 ∃(W:List Nat)(α:Type)(S:α->List D)(I:α->Prop)(μ:α->Nat)(Y:α),I Y/\(c7 W ⟨env,0,[]⟩).env=S Y/\∀x,I x->h.body (fun env'=>∃V,I V/\μ V<μ x/\(c7 W ⟨env',0,[]⟩).env=S V) h.E (S x)
def oS(env:List D):List (Nat×D)->List D
 | []=>env
 | (j,c)::r=>oS (fa env j c) r
theorem au{body:(List D->Prop)->Ex->List D->Prop}{E:Ex}{env:List D}{α:Type}(V:List Nat)(f:α->List (Nat×D))(I:α->Prop)(μ:α->Nat)(Y:α){S:List D}(Z:(c7 V ⟨env,0,[]⟩).env=S)
  (hI:I Y) (he:S=oS S (f Y)) (h:∀x,I x->body (fun env'=>∃W,I W/\μ W<μ x/\(c7 V ⟨env',0,[]⟩).env=oS S (f W)) E (oS S (f x))):@wc ⟨body,E⟩ env :=
 ⟨V,α,fun x=>oS S (f x),I,μ,Y,hI,by rw[Z];exact he,h⟩
theorem aj[Mode]{P:Program}{f:FuncId}{pl:Prop}{K:St->Prop}{st:St}{as:List Arg}{ds:List D}{res:D}(S:aA P f as res)(V:as=ds.map .v)(W:res.bA=true\/pl)(I:K (st.push (aV res))):@nS _ P f (some ds) true pl none ⟨K⟩ st :=
 ⟨ds,res,_,rfl,⟨rfl,V▸S,W⟩,.inl rfl,I⟩
theorem bf[Mode]{P:Program}{f:FuncId}{gt:Bool}{pl:Prop}{K:St->Prop}{st:St}{as:List Arg}{ds:List D}{res:D}{b:Bool}(W:b=true->aA P f as res)(Y:as=ds.map .v)(I:b=true->gt=true)(Z:res.bA=true\/pl)(V:K (st.push (.when b res))) :
  @nS _ P f (some ds) gt pl (some b) ⟨K⟩ st:=⟨ds,res,_,rfl,fun S=>⟨I S,Y▸W S,Z⟩,.inl rfl,V⟩
theorem zn[Mode]{P:Program}{f:FuncId}{pl:Prop}{K:St->Prop}{st:St}{as:List Arg}{ds:List D}{x y res:D}{k:Nat}(V:aA P f as res)(W:as=.io (.o x) (.o y)::ds.map .v)(I:pl)(Y:st.cont k=.o x)
  (S:K (((st.kill (bP k [])).put k (.o y)).push (aV res))):@pL _ P f (.sub k []) (some ds) true pl none ⟨K⟩ st :=
 ⟨rfl,rfl,I,ds,rfl,x,y,res,Y,W▸V,S⟩
theorem GO[Mode]{P:Program}{f:FuncId}{pl:Prop}{K:St->Prop}{st:St}{as:List Arg}{ds:List D}{res:D}{k:Nat}{s:Nat×Nat}{p:Path}(W:aA P f as res)(I:pl)
  (h:cE [.sub k (s::p)] (fun l st=>∃x y,l=[x]/\as=.io (.o x) (.o y)::ds.map .v/\gm [.sub k (s::p)] [y] (fun st=>K (st.push (aV res))) st) st):@pL _ P f (.sub k (s::p)) (some ds) true pl none ⟨K⟩ st :=
 ⟨rfl,rfl,I,ds,rfl,uY _ (fun _ _ ⟨x,y,h1,S,V⟩=>⟨x,y,res,h1,S▸W,V⟩) h⟩
def sE[Mode](P:Program):RT->(List D->Prop)->St->Prop
 | .leaf l post,K,st=>cw P (fun st=>K (fin post st)) l st
 | .two _ _ _ a b,K,st=>sE P a K st/\sE P b K st
def bU[Mode](P:Program):C->(List D->Prop)->Ex->List D->Prop
 | .skip,K,_,env=>K env
 | .ops pre l post,K,_,env=>cw P (fun st=>K (fin post st)) l (c7 pre ⟨env,0,[]⟩)
 | .dJ pre l post x a b,K,E,env=>cw P (fun st=>(st.rd x).gate=true/\jJ (st.rd x).core (bU P a K E (fin post st)) (bU P b K E (fin post st))) l (c7 pre ⟨env,0,[]⟩)
 | .wL pre l post x a b c,K,E,env=>cw P (fun st=>(st.rd x).gate=true/\jJ (st.rd x).core (bU P a (bU P c K E) E (fin post st)) (bU P b (bU P c K E) E (fin post st))) l (c7 pre ⟨env,0,[]⟩)
 | .seq a b,K,E,env=>bU P a (bU P b K E) E env
 | .cond x a b,K,E,env=>jJ ((⟨env,0,[]⟩:St).rd x) (bU P a K E env) (bU P b K E env)
 | .block id c,K,E,env=>bU P c K ⟨fun i s=>if i=id then K s else E.ex i s,E.ret⟩ env
 | .loop c,_,E,env=>@wc ⟨bU P c,E⟩ env
 | .exit id,_,E,env=>E.ex id env
 | .ret,_,E,env=>E.ret env
 | .alt pre t,K,_,env=>sE P t K (c7 pre ⟨env,0,[]⟩)
theorem abe[Mode]{P:Program}{K:St->Prop}{st:St}:cw P K (oL []) st=K st:=rfl
theorem abd[Mode]{P:Program}{K:St->Prop}{k:Kp}{r:List Kp}{st:St}:cw P K (oL (k::r)) st=br P k none (cw P K (oL r)) st:=rfl
theorem abc[Mode]{P:Program}{K:List D->Prop}{E:Ex}{l:List Kp}{env:List D}:bU P (.u l) K E env=cw P (fun st=>K (fin [] st)) (oL l) (c7 [] ⟨env,0,[]⟩):=rfl
theorem We[Mode]{P:Program}{K:St->Prop}{i:Nat}{g:Option Bool}{st:St}:br P (.m i) g K st=br P (.mv (.v i)) g K st:=rfl
theorem Wg[Mode]{P:Program}{K:St->Prop}{i:Nat}{g:Option Bool}{st:St}:br P (.n i) g K st=br P (.mv (.t i)) g K st:=rfl
theorem Wd[Mode]{P:Program}{K:St->Prop}{j i:Nat}{g:Option Bool}{st:St}:br P (.a j i) g K st=br P (.ch j (.t i)) g K st:=rfl
end Go.D3
namespace Go.D3
open Go
def ae{α:Type}(f:α->D)(d:α)(l:List α):D:=.slice (f d) (l.map f)
abbrev ints(l:List Int):D:=ae (D.int .i64) 0 l
abbrev bytes(l:List Int):D:=ae (D.int .u8) 0 l
abbrev jg(l:List Bool):D:=ae D.bool false l
abbrev jv(l:List (List UInt8)):D:=ae D.str [] l
abbrev aC(l:List (List Int)):D:=ae ints [] l
abbrev vj(l:List (List Bool)):D:=ae jg [] l
abbrev xr(l:List (List (List UInt8))):D:=ae jv [] l
abbrev iS(l:List (List (List Int))):D:=ae aC [] l
abbrev GN(l:List (List (List (List Int)))):D:=ae iS [] l
theorem getD_map'{α β:Type}(f:α->β)(d:α)(l:List α)(i:Nat):(l.map f).getD i (f d)=f (l.getD i d):=by
 rw[List.getD_eq_getElem?_getD,List.getD_eq_getElem?_getD,List.getElem?_map];cases l[i]?<;>rfl
section ae
variable{α:Type}{f:α->D}{d:α}{l:List α}
theorem Hv:(ae f d l).cA=some l.length:=by simp[ae,D.cA]
theorem Hu{i:Nat}:(ae f d l).jM i=(f (l.getD i d)).cells:=by simp only[ae,D.jM,getD_map']
theorem Sr{lo:Option X}:o7 (ae f d l) lo=none:=rfl
theorem Rw:(ae f d l).cells=[ae f d l]:=rfl
theorem Rx:(ae f d l).cellsOf=some [ae f d l]:=rfl
theorem RD:(ae f d l).core=ae f d l:=by simp[ae,D.core]
theorem RJ:(ae f d l).gate=true:=rfl
theorem Sv:(ae f d l).un=ae f d l:=rfl
theorem R8{k:Nat}:cB k (ae f d l)=ae f d l:=rfl
theorem RH{k:Nat}{p:Path}:dc k p (ae f d l)=.sub k p:=rfl
theorem RV{i o:Nat}:(ae f d l).dV i o=(f (l.getD i d)).cells.getD o .dead:=by simp only[ae,D.dV,getD_map']
theorem Hx{i o:Nat}{y:D}:(ae f d l).dw i o y=.slice (f d) ((l.map f).set i (dM (f (l.getD i d)) o y)):=by simp only[ae,D.dw,getD_map']
theorem RI{i:Nat}{x:α}:D.slice (f d) ((l.map f).set i (f x))=ae f d (l.set i x):=by simp[ae,List.map_set]
theorem RN{i o:Nat}:(ae f d l).fg i o=(i<l.length/\o<(f d).cells.length):=by simp[ae,D.fg]
theorem R5{i:Nat}{y:D}:(ae f d l).iW i y=kS (f (l.getD i d)) y:=by simp only[ae,D.iW,getD_map']
theorem Ru{M:List α}:(ae f d l).dh (M.map f)=ae f d (l++M):=by simp[ae,D.dh]
theorem kO{x:α}:(ae f d l).dh [f x]=ae f d (l++[x]):=by simp[ae,D.dh]
theorem Rv:(ae f d l).dh []=ae f d l:=by simp[ae,D.dh]
theorem RG:(ae f d l).gN=(f d).cells.length:=rfl
theorem RP:(ae f d l).isAgg=false:=rfl
theorem RQ:(ae f d l).isObj=false:=rfl
theorem R6:(ae f d l).cL=true:=rfl
theorem Sh:(ae f d l).oF=true:=rfl
theorem Sn:(ae f d l).dv=false:=rfl
theorem RW{q:D->Bool}:(ae f d l).kill q=ae f d l:=rfl
theorem Sj{σ:Nat->Nat}:(ae f d l).aD σ=ae f d l:=rfl
theorem Su:(ae f d l).tight=false:=rfl
theorem Si{Q:D->Prop}:(ae f d l).refs Q=True:=rfl
theorem RB:aV (ae f d l)=.o (ae f d l):=rfl
theorem Sm:(ae f d l).iC=true:=rfl
theorem Rt:(ae f d l).qS=false:=rfl
theorem Sa:(ae f d l).fq=some (.vw (ae f d l)):=rfl
theorem Sb:(ae f d l).rY=some (.vw (ae f d l)):=rfl
theorem RC:aV (.vw (ae f d l))=ae f d l:=rfl
theorem R9{i:Nat}{st:St}:kU i (ae f d l) st=st:=rfl
theorem Rs{K:D->St->Prop}{st:St}:aF (ae f d l) K st=K (.vw (ae f d l)) st:=rfl
theorem RE{a b:Nat}:(ae f d l).cut a b=some (ae f d ((l.take b).drop a)):=by simp[ae,D.cut,List.map_take,List.map_drop]
theorem RX{ob:Nat->D}:lZ ob (ae f d l)=some (True,.int .i64 l.length):=by simp[ae,lZ,D.cA,one]
theorem RO{ob:Nat->D}{sz:Nat}{k:IntKind}{n:Int}:oc sz ob (ae f d l) (.int k n)=some (0<=n/\n<l.length/\(f (l.getD n.toNat d)).cells.length=sz,.ptr (f (l.getD n.toNat d)).cells):=by
 have h:oc sz ob (ae f d l) (.int k n)=(ae f d l).cA.bind fun m=>some (0<=n/\n<m/\((ae f d l).jM n.toNat).length=sz,.ptr ((ae f d l).jM n.toNat)):=rfl
 rw[h,Hv,Hu];rfl
theorem Sq{st:St}:qH st (ae f d l)=some (l.map f):=rfl
theorem RU:(ae f d l).rF=true:=rfl
theorem RZ:(ae f d l).rR=((f d).rF || (f d).isAgg):=rfl
theorem R7:(ae f d l).ix=true:=rfl
theorem RY{st:St}:pY st (ae f d l)=none:=rfl
theorem RR{st:St}:isRow st (ae f d l)=none:=rfl
theorem RF:(ae f d l).kz=some (l.map f):=rfl
theorem Sk:(ae f d l).row?=none:=rfl
theorem Hw:(ae f d l).pc=true:=by simp[ae,D.pc]
theorem Se:(ae f d l).fX=some (ae f d l):=rfl
theorem R4(h:∀x,(f x).bA=true):(ae f d l).bA=true:=by
 simp only[ae,D.bA];induction l with
 | nil=>rfl
 | cons a l I=>simp[eR,h,I]
theorem RL{ob:Nat->D}{n:Nat}:ba ob (n+1) (ae f d l)=some (ae f d l):=rfl
end ae
theorem aak:D.slice (.int .i64 0) []=ints []:=rfl
theorem aaj:D.slice (.int .u8 0) []=bytes []:=rfl
theorem aah:D.slice (.bool false) []=jg []:=rfl
theorem aao:D.slice (.str []) []=jv []:=rfl
theorem XN{n:Nat}:D.slice (.int .i64 0) (List.replicate n (.int .i64 0))=ints (List.replicate n 0):=by simp[ints,ae]
theorem XM{n:Nat}:D.slice (.int .u8 0) (List.replicate n (.int .u8 0))=bytes (List.replicate n 0):=by simp[bytes,ae]
theorem XK{n:Nat}:D.slice (.bool false) (List.replicate n (.bool false))=jg (List.replicate n false):=by simp[jg,ae]
theorem XR{n:Nat}:D.slice (.str []) (List.replicate n (.str []))=jv (List.replicate n []):=by simp[jv,ae]
theorem XO{n:Nat}:D.slice (ints []) (List.replicate n (ints []))=aC (List.replicate n []):=by simp[aC,ae]
theorem XL{n:Nat}:D.slice (jg []) (List.replicate n (jg []))=vj (List.replicate n []):=by simp[vj,ae]
theorem XS{n:Nat}:D.slice (jv []) (List.replicate n (jv []))=xr (List.replicate n []):=by simp[xr,ae]
theorem XP{n:Nat}:D.slice (aC []) (List.replicate n (aC []))=iS (List.replicate n []):=by simp[iS,ae]
theorem aal:D.slice (ints []) []=aC []:=rfl
theorem aai:D.slice (jg []) []=vj []:=rfl
theorem aap:D.slice (jv []) []=xr []:=rfl
theorem aam:D.slice (aC []) []=iS []:=rfl
theorem aan:D.slice (iS []) []=GN []:=rfl
def mK{α β:Type}(f:α->D)(l:List (α×β)):List D:=l.map fun e=>f e.1
def mV{α β:Type}(g:β->D)(l:List (α×β)):List D:=l.map fun e=>g e.2
def bW{α β:Type}(f:α->D)(g:β->D)(l:List (α×β)):D:=.mp (mK f l) (mV g l)
section maps
variable{α β:Type}{f:α->D}{g:β->D}{l:List (α×β)}{a:α}{b:β}
def eA[BEq α](l:List (α×β))(a:α):Option Nat:=l.findIdx? fun e=>a == e.1
def jV[BEq α](l:List (α×β))(a:α)(z:β):β:=((l.find? fun e=>a == e.1).map (·.2)).getD z
def l6[BEq α](l:List (α×β))(a:α):Bool:=l.any fun e=>a == e.1
def gW[BEq α](l:List (α×β))(a:α)(b:β):List (α×β) :=
 match eA l a with
 | some i=>l.set i ((l.getD i (a,b)).1,b)
 | none=>l++[(a,b)]
theorem SO:D.mp (mK f l) (mV g l)=bW f g l:=rfl
theorem SV:(bW f g l).kP=some (mK f l,mV g l):=rfl
theorem SX:(bW f g l).rQ=some (mK f l,mV g l):=rfl
theorem Sx:(mK f l).length=l.length:=by simp[mK]
theorem SQ:(bW f g l).isAgg=false:=rfl
theorem SM:(bW f g l).core=bW f g l:=by simp[bW,D.core]
theorem SP:(bW f g l).gate=true:=rfl
theorem SN{k:Nat}{p:Path}:dc k p (bW f g l)=.sub k p:=rfl
theorem S2{k:Nat}:cB k (bW f g l)=bW f g l:=rfl
theorem SJ{k:Nat}{p:Path}:pt k p (bW f g l)=bW f g l:=rfl
theorem S9:(bW f g l).un=bW f g l:=rfl
theorem SH:(bW f g l).cells=[bW f g l]:=rfl
theorem SG:(bW f g l).qS=false:=rfl
theorem SI:(bW f g l).cellsOf=some [bW f g l]:=rfl
theorem SR:(bW f g l).isObj=false:=rfl
theorem S0:(bW f g l).cL=true:=rfl
theorem SU{q:D->Bool}:(bW f g l).kill q=bW f g l:=rfl
theorem S6{σ:Nat->Nat}:(bW f g l).aD σ=bW f g l:=rfl
theorem S5{Q:D->Prop}:(bW f g l).refs Q=True:=rfl
theorem SK:aV (bW f g l)=.o (bW f g l):=rfl
theorem SL:aV (.vw (bW f g l))=bW f g l:=rfl
theorem S3:(bW f g l).pc=true:=rfl
theorem S4:(bW f g l).fX=some (bW f g l):=rfl
theorem SZ:(bW f g l).bA=true:=rfl
theorem S8:(bW f g l).tight=false:=rfl
theorem SS:(bW f g l).rF=false:=rfl
theorem SY:(bW f g l).rR=false:=rfl
theorem HG[BEq α](h:∀a b,mT (f a) (f b)=some (a == b)):fV (f a) (mK f l)=some (eA l a):=by
 unfold mK eA;induction l with
 | nil=>rfl
 | cons e r I =>
  simp only[List.map_cons,fV,h,Option.bind_some,I,List.findIdx?_cons];cases a == e.1<;>rfl
theorem Sz{l:List (List UInt8×β)}{a:List UInt8}:fV (.str a) (mK D.str l)=some (eA l a):=HG fun _ _=>rfl
theorem Sy{k:IntKind}{l:List (Int×β)}{a:Int}:fV (.int k a) (mK (D.int k) l)=some (eA l a):=HG fun a b=>by simp[mT]
theorem wm[BEq α]:cQ (f a) (g b) (mK f l) (mV g l) (eA l a)=(mK f (gW l a b),mV g (gW l a b)):=by
 unfold gW mK mV;cases h:eA l a with
 | none=>simp[cQ]
 | some i =>
  have hi:i<l.length:=by
   unfold eA at h;rw[List.findIdx?_eq_some_iff_findIdx_eq] at h;exact h.1
  simp only[cQ,List.map_set];congr 1;have:f (l.getD i (a,b)).1=(l.map fun e=>f e.1)[i]'(by simpa using hi):=by simp[List.getD_eq_getElem?_getD,hi]
  rw[this,List.set_getElem_self]
theorem HJ[BEq α]{z:β}:jW (g z) (mV g l) (eA l a)=g (jV l a z):=by
 unfold eA jV mV;induction l with
 | nil=>rfl
 | cons e r I =>
  rw[List.findIdx?_cons,List.find?_cons];cases h:a == e.1 with
  | true=>simp[jW]
  | false =>
   simp only[Bool.false_eq_true,if_false] at I|-
   rw[<-I];cases r.findIdx? (fun e=>a == e.1)<;>simp[jW]
theorem SA[BEq α]:(eA l a).isSome=l6 l a:=by
 unfold eA l6;rw[List.findIdx?_isSome]
theorem Tj[BEq α]{k:IntKind}{l:List (α×Int)}{z:Int}:jW (.int k z) (mV (D.int k) l) (eA l a)=.int k (jV l a z):=HJ
theorem Ti[BEq α]{l:List (α×Bool)}{z:Bool}:jW (.bool z) (mV D.bool l) (eA l a)=.bool (jV l a z):=HJ
theorem Te{k:IntKind}{l:List (List UInt8×Int)}{a:List UInt8}{b:Int}:cQ (.str a) (.int k b) (mK D.str l) (mV (D.int k) l) (eA l a)=(mK D.str (gW l a b),mV (D.int k) (gW l a b)):=wm
theorem Td{l:List (List UInt8×Bool)}{a:List UInt8}{b:Bool}:cQ (.str a) (.bool b) (mK D.str l) (mV D.bool l) (eA l a)=(mK D.str (gW l a b),mV D.bool (gW l a b)):=wm
theorem Tb{j k:IntKind}{l:List (Int×Int)}{a b:Int}:cQ (.int j a) (.int k b) (mK (D.int j) l) (mV (D.int k) l) (eA l a)=(mK (D.int j) (gW l a b),mV (D.int k) (gW l a b)):=wm
theorem Ta{j:IntKind}{l:List (Int×Bool)}{a:Int}{b:Bool}:cQ (.int j a) (.bool b) (mK (D.int j) l) (mV D.bool l) (eA l a)=(mK (D.int j) (gW l a b),mV D.bool (gW l a b)):=wm
end maps
abbrev E5(s:List UInt8):List Int:=s.map fun b=>(b.toNat:Int)
def byteOf(n:Int):UInt8:=UInt8.ofNat n.toNat
theorem OX{s:List UInt8}:sZ s=bytes (E5 s):=by simp[sZ,bytes,ae,E5,Function.comp_def]
theorem E6:∀{l:List Int},bytesOf (l.map (D.int .u8))=some (l.map byteOf)
 | []=>rfl
 | a::r=>by simp only[List.map_cons,bytesOf,E6 (l:=r),Option.bind_some];rfl
theorem OZ{l:List Int}:(ae (D.int .u8) 0 l).mz=some (l.map byteOf):=E6
attribute [go_sem] SO SV SX Sx SQ SM SP SN S2 SJ S9 SH SI SR S0 SU S6 S5 SK SL S3 S4 SZ S8 SS SY
 Sz Sy SA Tj Ti Te Td Tb Ta OX OZ List.head?_cons
section
variable{P:Program}{K:St->Prop}{E:Ex}{st st':St}{env env':List D}
@[congr] theorem acs[Mode]{c:C}{K:List D->Prop}(h:env=env'):bU P c K E env=bU P c K E env':=by rw[h]
@[congr] theorem acu[Mode]{l:List bh}(h:st=st'):cw P K l st=cw P K l st':=by rw[h]
@[congr] theorem acd[Mode]{k:Kp}{g I:Option Bool}(hg:g=I)(h:st=st'):br P k g K st=br P k I K st':=by rw[h,hg]
@[congr] theorem acj{r S:Option PR}{g I:Option Bool}(h:r=S)(hg:g=I):iz r g K st=iz S I K st:=by rw[h,hg]
@[congr] theorem aca{r S:Option PR}{g I:Option Bool}(h:r=S)(hg:g=I):fo r g K st=fo S I K st:=by rw[h,hg]
@[congr] theorem ab5{v I:Option Bool}{K:Bool->Prop}(h:v=I):kG v K=kG I K:=by rw[h]
@[congr] theorem abX{v I:D}{A B:Prop}(h:v=I):jJ v A B=jJ I A B:=by rw[h]
@[congr] theorem ace{α:Type}{v I:Option α}{K:α->Prop}(h:v=I):cR v K=cR I K:=by rw[h]
@[congr] theorem abP{j:Nat}{x I:D}(h:x=I):nN j x K st=nN j I K st:=by rw[h]
@[congr] theorem abQ{j:Nat}{x I:D}(h:x=I):mo j x K st=mo j I K st:=by rw[h]
@[congr] theorem abO{j:Nat}{x I:D}(h:x=I):qU j x K st=qU j I K st:=by rw[h]
@[congr] theorem abL{x I:D}{K:D->St->Prop}(h:x=I)(S:st=st'):aF x K st=aF I K st':=by rw[h,S]
@[congr] theorem abM{x I:List D}{K:List D->St->Prop}(h:x=I)(S:st=st'):cE x K st=cE I K st':=by rw[h,S]
@[congr] theorem acq{k:Nat}{p I:Path}{K:D->St->Prop}(h:p=I)(S:st=st'):eI k p K st=eI k I K st':=by rw[h,S]
@[congr] theorem abR{x I:D}{K:D->St->Prop}(h:x=I)(S:st=st'):iO x K st=iO I K st':=by rw[h,S]
@[congr] theorem acp{b b':Bool}{n k:Nat}{p:Path}{x I:D}(h:b=b')(S:x=I):sx b n k p x K st=sx b' n k p I K st:=by rw[h,S]
@[congr] theorem acn{n:Nat}{a I x S:D}(h:a=I)(V:x=S):oX n a x K st=oX n I S K st:=by rw[h,V]
@[congr] theorem aco{b b':Bool}{n k:Nat}{p:Path}{x I:D}(h:b=b')(S:x=I):nB b n k p x K st=nB b' n k p I K st:=by rw[h,S]
@[congr] theorem acm{k:Nat}{p:Path}{x I:D}(S:x=I):qJ k p x K st=qJ k p I K st:=by rw[S]
@[congr] theorem ack{n:Nat}{a I x S:D}(h:a=I)(V:x=S):lq n a x K st=lq n I S K st:=by rw[h,V]
@[congr] theorem abN{n m:Nat}{a I x S:D}(h:a=I)(V:x=S):pk n m a x K st=pk n m I S K st:=by rw[h,V]
@[congr] theorem abW[Mode]{f:FuncId}{ds I:Option (List D)}{gt S:Bool}{pl V:Prop}{g W:Option Bool}{K:KH}(h1:ds=I)(Y:gt=S)(Z:pl=V)(h:g=W)(hs:st=st'):nS P f ds gt pl g st=nS P f I S V W st':=by rw[h1,Y,Z,h,hs]
@[congr] theorem ab6[Mode]{f:FuncId}{d W:D}{ds I:Option (List D)}{gt S:Bool}{pl V:Prop}{g Y:Option Bool}{K:KH}(Z:d=W)(h1:ds=I)(h2:gt=S)(h3:pl=V)(h:g=Y)(hs:st=st'):pL P f d ds gt pl g st=pL P f W I S V Y st':=by rw[Z,h1,h2,h3,h,hs]
@[congr] theorem ab3{l l' ys I:List D}{K:St->Prop}(S:l=l')(h1:ys=I)(V:st=st'):gm l ys K st=gm l' I K st':=by rw[S,h1,V]
@[congr] theorem ab1{x S y V:D}{r I:List D}{K:St->Prop}(W:x=S)(h1:y=V)(Y:r=I)(Z:st=st'):rr x r y K st=rr S I V K st':=by rw[W,h1,Y,Z]
@[congr] theorem ab4[Mode]{f:FuncId}{ds I:List D}{gt S:Bool}{g V:Bool}{K:KH}(h1:ds=I)(W:gt=S)(h:g=V)(Y:st=st'):mM P f ds gt g st=mM P f I S V st':=by rw[h1,W,h,Y]
@[congr] theorem abZ[Mode]{x W:D}{ds I:List D}{gt S:Bool}{g V:Bool}{K:KH}(Y:x=W)(h1:ds=I)(Z:gt=S)(h:g=V)(hs:st=st'):lP P x ds gt g st=lP P W I S V st':=by rw[Y,h1,Z,h,hs]
@[congr] theorem abU{x I:D}{K:D->St->Prop}(h:x=I)(S:st=st'):lM x K st=lM I K st':=by rw[h,S]
@[congr] theorem acr{d I l l':List D}{K:List D->St->Prop}(h:d=I)(S:l=l')(V:st=st'):ga d l K st=ga I l' K st':=by rw[h,S,V]
@[congr] theorem abV{n:Nat}{x I:D}(h:x=I)(S:st=st'):qY n x K st=qY n I K st':=by rw[h,S]
@[congr] theorem abS{z x I:D}(h:x=I)(S:st=st'):qW z x K st=qW z I K st':=by rw[h,S]
@[congr] theorem abT{z:D}{r I:Option (Bool×List D)}(h:r=I)(S:st=st'):qX z r K st=qX z I K st':=by rw[h,S]
@[congr] theorem abY{x I y S:D}{K:KH}(h:x=I)(V:y=S)(W:st=st'):Fz x y st=Fz I S st':=by rw[h,V,W]
@[congr] theorem ab9{kk:Nat}{x I y S z V:D}{K:KH}(h:x=I)(W:y=S)(Y:z=V)(Z:st=st'):pX kk x y z st=pX kk I S V st':=by rw[h,W,Y,Z]
@[congr] theorem acb{j:Nat}{K:KH}(I:st=st'):qa j st=qa j st':=by rw[I]
@[congr] theorem ab0[Mode]{x W:D}{ds I:List D}{gt S:Bool}{g V:Option Bool}{K:KH}(Y:x=W)(h1:ds=I)(Z:gt=S)(h:g=V)(hs:st=st'):jK P x ds gt g st=jK P W I S V st':=by rw[Y,h1,Z,h,hs]
@[congr] theorem ab7{h:LH}(he:env=env'):wc env=wc env':=by rw[he]
end
attribute [go_sem] bU.eq_1 bU.eq_2 bU.eq_3 bU.eq_4 bU.eq_5 bU.eq_6 bU.eq_7 bU.eq_8 bU.eq_9 bU.eq_10 bU.eq_11 cw.eq_1 cw.eq_2 cw.eq_3 br.eq_1 br.eq_2 br.eq_3 br.eq_4 br.eq_5 br.eq_6 br.eq_7
  br.eq_8 br.eq_9 br.eq_10 br.eq_11 br.eq_12 br.eq_13 br.eq_14 br.eq_15 br.eq_16 br.eq_17 br.eq_18 br.eq_19 br.eq_20 br.eq_21 br.eq_22 br.eq_23 br.eq_24 br.eq_25 br.eq_26 br.eq_27 br.eq_28
  iz.eq_1 iz.eq_2 fo.eq_1 fo.eq_2 bX.eq_1 bX.eq_2 bX.eq_3 bX.eq_4 bX.eq_5 bX.eq_6 bX.eq_7 bX.eq_8 bX.eq_9 bX.eq_10 mb.eq_1 mb.eq_2 qM.eq_1 qM.eq_2 nN.eq_1 qU.eq_1
  mo.eq_1 mo.eq_2 jy.eq_1 jy.eq_2 jy.eq_3 mY.eq_1 mY.eq_2 mY.eq_3 D.tv.eq_1 D.tv.eq_2 D.cL.eq_1 D.cL.eq_2 D.cL.eq_3 D.cL.eq_4 D.cL.eq_5 tU.eq_1 tU.eq_2 D.oF.eq_1 D.oF.eq_2 D.oF.eq_3
  D.oF.eq_4 D.oF.eq_5 D.oF.eq_6 aF.eq_1 aF.eq_2 aF.eq_3 aF.eq_4 aF.eq_5 aF.eq_6 aF.eq_7 aF.eq_8 aF.eq_9 aF.eq_10 aF.eq_11 aF.eq_12 aF.eq_13 aF.eq_14 aF.eq_15 cE.eq_1 cE.eq_2 eI.eq_1
  eI.eq_2 iO.eq_1 iO.eq_2 iO.eq_3 lq.eq_1 lq.eq_2 pk.eq_1 aV.eq_1 aV.eq_2 aV.eq_3 aV.eq_4 aV.eq_5 aV.eq_6 aV.eq_7 aV.eq_8 aV.eq_9 aV.eq_10 aV.eq_11 aV.eq_12
  aV.eq_13 aV.eq_14 aV.eq_15 aV.eq_16 aV.eq_17 bO.eq_1 bO.eq_2 bO.eq_3 bO.eq_4 bO.eq_5 bO.eq_6 bO.eq_7 bO.eq_8 bO.eq_9 bO.eq_10 bO.eq_11 bO.eq_12 bO.eq_13 bO.eq_14 bO.eq_15 bO.eq_16 bO.eq_17
  bO.eq_18 bO.eq_19 bO.eq_20 bO.eq_21 bO.eq_22 bO.eq_23 bO.eq_24 bO.eq_25 bO.eq_26 bO.eq_27 bO.eq_28 bO.eq_29 g1.eq_1 g1.eq_2 g2.eq_1 g2.eq_2 one.eq_1 St.rd.eq_1 St.rd.eq_2 St.rd.eq_3 St.rd.eq_4
  St.rd.eq_5 St.cont.eq_1 St.put.eq_1 St.push.eq_1 St.kill.eq_1 cB.eq_1 cB.eq_2 cB.eq_3 cB.eq_4 dc.eq_1 dc.eq_2 dc.eq_3 dc.eq_4 dc.eq_5 dc.eq_6 dc.eq_7 dc.eq_8 dc.eq_9 dc.eq_10 dc.eq_11 dc.eq_12
  dc.eq_13 dc.eq_14 dc.eq_15 dc.eq_16 kB.eq_1 kB.eq_2 nth.eq_1 nth.eq_2 nth.eq_3 fa.eq_1 fa.eq_2 fa.eq_3 ey.eq_1 ey.eq_2 D.kill.eq_1 D.kill.eq_2 D.kill.eq_3 D.kill.eq_4 D.kill.eq_5 D.kill.eq_6 D.kill.eq_7
  D.kill.eq_8 D.kill.eq_9 D.kill.eq_10 D.core.eq_1 D.core.eq_2 D.gate.eq_1 D.gate.eq_2 sU.eq_1 sU.eq_2 sU.eq_3 EZ.eq_1 EZ.eq_2 xk.eq_1 xk.eq_2 wj.eq_1 wj.eq_2 nf.eq_1 nf.eq_2 gR.eq_1 gR.eq_2 gR.eq_3
  gR.eq_4 gR.eq_5 gR.eq_6 gR.eq_7 gR.eq_8 gR.eq_9 gR.eq_10 gR.eq_11 gR.eq_12 gR.eq_13 lr.eq_1 lr.eq_2 lr.eq_3 lr.eq_4 lr.eq_5 lr.eq_6 lr.eq_7 lr.eq_8
  vi.eq_1 vi.eq_2 vi.eq_3 lZ.eq_1 lZ.eq_2 v7.eq_1 v7.eq_2 oc.eq_1 oc.eq_2 oc.eq_3 oh.eq_1 oh.eq_2 oh.eq_3 oi.eq_1 oi.eq_2 oi.eq_3 nW.eq_1 nW.eq_2 nW.eq_3 vH.eq_1 vH.eq_2 Gj.eq_1
  Gj.eq_2 wA.eq_1 wA.eq_2 vr.eq_1 vr.eq_2 wO.eq_1 wO.eq_2 oB.eq_1 oB.eq_2 yh.eq_1 yg.eq_1 zL.eq_1 sV.eq_1 sV.eq_2 sV.eq_3 mJ.eq_1 mJ.eq_2 nX.eq_1 nX.eq_2 setCells.eq_1
  setCells.eq_2 D.cellsOf.eq_1 D.cellsOf.eq_2 D.cellsOf.eq_3 D.cellsOf.eq_4 D.cellsOf.eq_5 D.cellsOf.eq_6 D.cellsOf.eq_7 D.cellsOf.eq_8 D.cellsOf.eq_9 ez.eq_1 ez.eq_2 ba.eq_1 ba.eq_2 ba.eq_3 ba.eq_4 ba.eq_5 ba.eq_6
  ba.eq_7 ba.eq_8 ba.eq_9 ba.eq_10 ba.eq_11 ba.eq_12 ba.eq_13 ba.eq_14 iR.eq_1 iR.eq_2 eN.eq_1 eN.eq_2 jJ.eq_1 jJ.eq_2 c7.eq_1 c7.eq_2 kA.eq_1 kA.eq_2 kU.eq_1 kU.eq_2 kU.eq_3
  Aw.eq_1 Aw.eq_2 jo.eq_1 jo.eq_2 fin.eq_1 kG.eq_1 kG.eq_2 gd.eq_1 cR.eq_1 cR.eq_2 isRow.eq_1 isRow.eq_2 pY.eq_1 pY.eq_2 pY.eq_3 D.zN.eq_1 D.zN.eq_2 D.rR.eq_1 D.rR.eq_2 D.rF.eq_1 D.rF.eq_2
  D.ix.eq_1 D.ix.eq_2 D.ix.eq_3 D.ix.eq_4 D.ix.eq_5 D.ix.eq_6 D.ix.eq_7 D.ix.eq_8 D.ix.eq_9 D.ix.eq_10 D.ix.eq_11 oy.eq_1 oy.eq_2 D.wo.eq_1 qH.eq_1 qH.eq_2 ve.eq_1 D.row?.eq_1 D.row?.eq_2
  D.kz.eq_1 D.kz.eq_2 D.kz.eq_3 D.o?.eq_1 D.o?.eq_2 D.iC.eq_1 D.iC.eq_2 D.iC.eq_3 D.iC.eq_4 D.iC.eq_5 D.iC.eq_6 D.iC.eq_7 D.iC.eq_8 D.iC.eq_9 D.iC.eq_10 qy.eq_1 qy.eq_2 D.sY.eq_1 D.sY.eq_2 oX.eq_1
  oX.eq_2 D.jw.eq_1 D.jw.eq_2 D.jw.eq_3 D.jw.eq_4 D.fq.eq_1 D.fq.eq_2 D.fq.eq_3 D.fq.eq_4 D.fq.eq_5 D.fq.eq_6 D.fq.eq_7 D.fq.eq_8 D.rY.eq_1 D.rY.eq_2 D.int?.eq_1 D.int?.eq_2 D.oY.eq_1 D.oY.eq_2 D.bool?.eq_1
  D.bool?.eq_2 D.sO.eq_1 D.sO.eq_2 D.sO.eq_3 D.pc.eq_1 D.pc.eq_2 D.pc.eq_3 D.pc.eq_4 D.pc.eq_5 D.pc.eq_6 D.pc.eq_7 D.pc.eq_8 D.pc.eq_9 sy.eq_1 sy.eq_2 D.fX.eq_1 D.fX.eq_2 D.fX.eq_3 D.fX.eq_4 D.fX.eq_5
  D.fX.eq_6 D.fX.eq_7 D.fX.eq_8 D.fX.eq_9 D.fX.eq_10 D.fX.eq_11 D.fX.eq_12 D.fX.eq_13 qg.eq_1 qg.eq_2 vQ.eq_1 vQ.eq_2 vB.eq_1 vB.eq_2 oq.eq_1 oq.eq_2 oq.eq_3 oq.eq_4 vA.eq_1
  vA.eq_2 iQ.eq_1 iQ.eq_2 iQ.eq_3 iQ.eq_4 iQ.eq_5 BD.eq_1 xl.eq_1 o7.eq_1 o7.eq_2 lK.eq_1 lK.eq_2 nT.eq_1 nT.eq_2 bump.eq_1 bump.eq_2 bump.eq_3 looks.eq_1 looks.eq_2 tq.eq_1 tq.eq_2 pU.eq_1
  pt.eq_1 pt.eq_2 D.refs.eq_1 D.refs.eq_2 D.refs.eq_3 D.refs.eq_4 D.refs.eq_5 D.refs.eq_6 D.refs.eq_7 D.refs.eq_8 D.refs.eq_9 D.refs.eq_10 cu.eq_1 cu.eq_2 oO.eq_1 oO.eq_2 Bk.eq_1 Bk.eq_2 nM.eq_1
  nM.eq_2 nM.eq_3 apart.eq_1 apart.eq_2 apart.eq_3 cH.eq_1 cH.eq_2 cH.eq_3 dW.eq_1 kW.eq_1 kW.eq_2 aX.eq_1 aX.eq_2 aX.eq_3 bP.eq_1 bP.eq_2 bP.eq_3 bB.eq_1 bB.eq_2 bB.eq_3
  ir.eq_1 ir.eq_2 ir.eq_3 kE.eq_1 kE.eq_2 kE.eq_3 dp.eq_1 D.hole.eq_1 D.yZ.eq_1 rr.eq_1 rr.eq_2 gm.eq_1 gm.eq_2 gm.eq_3 fK.eq_1 fK.eq_2 fK.eq_3 D.cA.eq_1 D.cA.eq_2 D.cA.eq_3 D.cA.eq_4
  D.jM.eq_1 D.jM.eq_2 D.cells.eq_1 D.cells.eq_2 lk.eq_1 D.isObj.eq_1 D.isObj.eq_2 D.isObj.eq_3 D.isObj.eq_4 D.iT.eq_1 D.iT.eq_2 D.bm.eq_1 D.at.eq_1 D.at.eq_2 D.aY.eq_1 D.dV.eq_1 D.dV.eq_2 D.dV.eq_3 D.dV.eq_4
  D.dV.eq_5 D.dV.eq_6 D.dV.eq_7 D.un.eq_1 D.un.eq_2 bD.eq_1 bD.eq_2 D.aZ.eq_1 D.aZ.eq_2 D.aZ.eq_3 D.aZ.eq_4 D.aZ.eq_5 D.aZ.eq_6 D.has.eq_1 D.has.eq_2 D.lW.eq_1 D.fg.eq_1 D.fg.eq_2
  D.fg.eq_3 D.fg.eq_4 D.fg.eq_5 D.fg.eq_6 D.fg.eq_7 D.setAt.eq_1 D.setAt.eq_2 D.fw.eq_1 D.fw.eq_2 D.dw.eq_1 D.dw.eq_2 D.dw.eq_3 D.dw.eq_4 D.dw.eq_5 D.dw.eq_6
  D.dw.eq_7 dM.eq_1 dM.eq_2 df.eq_1 df.eq_2 nk.eq_1 nk.eq_2 fJ.eq_1 fJ.eq_2 fJ.eq_3 fJ.eq_4 dY.eq_1 dY.eq_2 dY.eq_3 D.iW.eq_1 D.iW.eq_2 D.iW.eq_3 kS.eq_1 D.isAgg.eq_1
  D.isAgg.eq_2 D.dv.eq_1 D.dv.eq_2 D.dv.eq_3 D.dv.eq_4 D.dh.eq_1 D.dh.eq_2 D.gN.eq_1 D.gN.eq_2 D.gN.eq_3 D.cut.eq_1 D.cut.eq_2 D.cut.eq_3 D.cut.eq_4 D.bA.eq_1 D.bA.eq_2 D.bA.eq_3 D.bA.eq_4 D.bA.eq_5
  D.bA.eq_6 D.bA.eq_7 eR.eq_1 eR.eq_2 jK.eq_1 jK.eq_2 jK.eq_3 lP.eq_1 lP.eq_2 lM.eq_1 lM.eq_2 ga.eq_1 ga.eq_2 ga.eq_3 qY.eq_1 qW.eq_1 td.eq_1 td.eq_2 lh.eq_1 lh.eq_2
  yc.eq_1 pX.eq_1 pX.eq_2 pX.eq_3 qa.eq_1 D.tw.eq_1 D.tw.eq_2 rT.eq_1 rT.eq_2 rT.eq_3 Bg.eq_1 four.eq_1 four.eq_2 four.eq_3 four.eq_4 four.eq_5 Bi.eq_1 Bi.eq_2 yA.eq_1 zJ.eq_1 mT.eq_1
  mT.eq_2 mT.eq_3 mT.eq_4 fV.eq_1 fV.eq_2 D.kP.eq_1 D.kP.eq_2 D.rQ.eq_1 D.rQ.eq_2 D.rQ.eq_3 mapOf.eq_1 mapOf.eq_2 D.kK.eq_1 D.kK.eq_2 D.kK.eq_3 D.kK.eq_4 jW.eq_1 jW.eq_2 wg.eq_1 vZ.eq_1
  cQ.eq_1 cQ.eq_2 D.mz.eq_1 D.mz.eq_2 D.mz.eq_3 D.mz.eq_4 rh.eq_1 rh.eq_2 fY.eq_1 fY.eq_2 D.aD.eq_1 D.aD.eq_2 D.aD.eq_3 D.aD.eq_4 D.aD.eq_5 D.aD.eq_6 D.aD.eq_7 D.aD.eq_8 D.aD.eq_9 D.aD.eq_10 eS.eq_1
  eS.eq_2 kN.eq_1 kN.eq_2 kN.eq_3 kq.eq_1 kq.eq_2 kq.eq_3 xi.eq_1 xi.eq_2 uH.eq_1 uH.eq_2 qm.eq_1 qm.eq_2 qm.eq_3 qG.eq_1 qG.eq_2 gB.eq_1 gB.eq_2 kQ.eq_1 kQ.eq_2 kQ.eq_3 D.tight.eq_1
  D.tight.eq_2 D.tight.eq_3 D.tight.eq_4 D.tight.eq_5 D.tight.eq_6 D.tight.eq_7 D.tight.eq_8 D.tight.eq_9 D.tight.eq_10 D.tight.eq_11 D.tight.eq_12 ml.eq_1 ml.eq_2 D.pb.eq_1 D.pb.eq_2 sA.eq_1 sA.eq_2
  D.iF.eq_1 D.iF.eq_2 D.iF.eq_3 lv.eq_1 lv.eq_2 qX.eq_1 qX.eq_2 pZ.eq_1 pZ.eq_2 D.qS.eq_1 D.qS.eq_2 D.sa.eq_1 D.sa.eq_2 D.uN.eq_1 D.uN.eq_2 pP.eq_1 pP.eq_2 pP.eq_3 Rt zK.eq_1
  SG tJ.eq_1 tJ.eq_2 qJ.eq_1 nB.eq_1 nB.eq_2 sx.eq_1 sx.eq_2
 Hv Hu Option.elim_none Option.elim_some Sr Rw Rx RD RJ Sv R8 RH RV Hx RI RN R5 Ru kO Rv RG RP RQ Sn R6 Sh RW Si Sj Su RB R9 Rs RE RL RX RO Sq RR RU RZ R7 RY RF Sk Hw Se Sm Sa Sb RC
 aak aaj aah aao aal aai aap aam aan XN XM XK XR XO XL XS XP
 Option.bind_some Option.map_some Option.bind_none Option.map_none Option.some.injEq if_true if_false true_and and_true Bool.true_and Bool.and_true Bool.and_self Bool.false_and Bool.and_false Bool.not_true Bool.not_false List.drop_zero List.drop_succ_cons List.take_succ_cons List.take_zero List.length_cons List.length_nil List.replicate_succ List.replicate_zero List.map_cons List.map_nil
 List.getD_cons_zero List.getD_cons_succ List.set_cons_zero List.set_cons_succ List.cons_append List.nil_append List.append_nil List.isEmpty_nil List.isEmpty_cons
 reduceCtorEq decide_true decide_false implies_true true_implies false_implies and_self ne_eq not_false_eq_true not_true_eq_false beq_iff_eq true_or or_true false_or or_false eq_self Bool.false_eq_true decide_eq_true_eq decide_eq_false_iff_not Nat.zero_add Nat.add_zero imp_self
end Go.D3
namespace Go.D3
open Go
def tQ(k:IntKind)(n:Int):Bool:=decide (k.min<=n)&&decide (n<=k.max)
theorem qb{k:IntKind}{n:Int}(h:tQ k n=true):k.has n:=by
 simp[tQ] at h;exact h
def eG(P:Program)(t:TypeId)(n:Nat):Bool :=
 match P.info? t with
 | some i=>decide (i.size=n)
 | none=>false
def pq(P:Program)(t:TypeId)(n:Nat):Bool :=
 match P.info? t with
 | some i=>decide (i.bytes=n)
 | none=>false
def sR(P:Program)(t:TypeId):Bool:=match P.underlying t with
 | some (.struct _) | some (.array _ _)=>true
 | _=>false
def lN(P:Program)(t:TypeId):Bool:=match P.underlying t with
 | some (.struct _) | some (.array _ _) | none=>false
 | _=>true
def jt(P:Program)(t:TypeId):Option TypeId:=match P.underlying t with
 | some (.slice e)=>some e
 | _=>none
def lQ(P:Program)(t:TypeId)(f:Nat):Option (Nat×TypeId):=match P.underlying t with
 | some (.struct fs)=>(fs[f]?).map fun x=>(x.offset,x.type)
 | _=>none
theorem n9{n:Nat}(h:n<=maxLen):IntKind.i64.has (n:Int):=by
 simp only[maxLen] at h;constructor
 ·simp[IntKind.min,IntKind.signed,IntKind.bits]<;>omega
 ·simp[IntKind.max,IntKind.signed,IntKind.bits]<;>omega
theorem xE(k:IntKind)(n:Int):k.has (k.wrap n):=by
 have I:∀(bits:Nat),True:=fun _=>trivial
 cases k<;>simp only[IntKind.has,IntKind.min,IntKind.max,IntKind.wrap,IntKind.signed,IntKind.bits]<;>simp<;>(first | omega | (split<;>omega))
def Yd(P:Program)(o:Oper)(a:Act)(w:World)(v:Value):Prop:=(execOp a.eval o).run P w=.ok (.value v) w
section
variable{P:Program}{o:Oper}{w:World}{a:Act}
theorem xG{x:Operand}(I:o.op=.move x\/o.op=.assign x):Yd P o a w (a.eval x):=by
 rcases I with I | I<;>simp[Yd,execOp,I]
theorem QM{op:BinOp}{k:IntKind}{m n:Int}(hm:k.has m){side:Prop}{d:D}(W:gR op k m n=some (side,d))(Y:side):∃v,Rd w (fun _=>False) v d /\
  (∀{t u:TypeId}{x y:Operand},o.op=.binOp op t x y u->a.eval x=.int k m->a.eval y=.int k n->Yd P o a w v):=by
 have hg:∀t x y w,(eqGuard op t x y (.int k m) (.int k n)).run P w=.ok () w:=by
  intro t x y w;unfold eqGuard;cases op<;>rfl
 have hq:∀(d:Int),(¬n=0)->(Op.intDiv .quo k m n).run P w=.ok (.int k (k.wrap (m.tdiv n))) w/\(Op.intDiv .rem k m n).run P w=.ok (.int k (m.tmod n)) w:=by
  intro _ h0;constructor<;>simp[Op.intDiv,h0]
 cases op<;>simp only[gR,Option.some.injEq,Prod.mk.injEq,reduceCtorEq] at W
 case quo =>
  obtain⟨h1,rfl⟩:=W;rw[<-h1] at Y;refine⟨.int k (k.wrap (m.tdiv n)),Rd.int (xE _ _),fun I S V=>?_⟩;simp[Yd,execOp,I,S,V,hg,binOp,(hq 0 Y).1]
 case rem =>
  obtain⟨h1,rfl⟩:=W;rw[<-h1] at Y;refine⟨.int k (m.tmod n),Rd.int ?_,fun I S V=>by simp[Yd,execOp,I,S,V,hg,binOp,(hq 0 Y).2]⟩
  have h3:(m.tmod n).natAbs<=m.natAbs:=by
   rw[Int.natAbs_tmod];exact Nat.mod_le _ _
  obtain⟨h4,h5⟩:=hm;have h8:k.min<=0/\0<=k.max:=by cases k<;>simp[IntKind.min,IntKind.max,IntKind.signed,IntKind.bits]
  rcases Int.le_total 0 m with Z | Z
  ·have h7:=Int.tmod_nonneg n Z
   constructor<;>omega
  ·have h7:m.tmod n<=0:=by
    have:=Int.tmod_nonneg n (show 0<=-m by omega);rw[Int.neg_tmod] at this;omega
   constructor<;>omega
 case and =>
  obtain⟨-,rfl⟩:=W;refine⟨_,Rd.int (xE _ _),fun I S V=>?_⟩;simp only[Yd,execOp,I,S,V,binOp,ne_eq,not_true_eq_false,if_false];rfl
 all_goals
  obtain⟨-,rfl⟩:=W
  first
  | exact⟨_,Rd.int (xE _ _),fun I S V=>by simp[Yd,execOp,I,S,V,hg,binOp,Op.intArith]⟩
  | exact⟨_,Rd.bool,fun I S V=>by simp[Yd,execOp,I,S,V,hg,binOp,Op.intCmp]⟩
theorem Z5{k:IntKind}{m:Int}(hm:k.has m)(n:Nat):k.has (m.fdiv (2 ^ n)):=by
 have hp:(0:Int)<2 ^ n:=Int.pow_pos (by decide);rw[Int.fdiv_eq_ediv_of_nonneg _ (Int.le_of_lt hp)];obtain⟨h1,S⟩:=hm;have I:k.min<=0/\0<=k.max:=by cases k<;>simp[IntKind.min,IntKind.max,IntKind.signed,IntKind.bits]
 constructor
 ·refine(Int.le_ediv_iff_mul_le hp).2 ?_
  have:=Int.mul_le_mul_of_nonpos_left I.1 (show(1:Int)<=2 ^ n by omega);omega
 ·rcases Int.le_total 0 m with h | h
  ·have:=Int.ediv_le_self (2 ^ n) h
   omega
  ·have:=(Int.ediv_lt_iff_lt_mul hp (a:=m) (b:=1)).2 (by omega)
   omega
theorem abF{k Z:IntKind}{m n:Int}{t u:TypeId}{x y:Operand}(V:o.op=.binOp .shr t x y u)(W:a.eval x=.int k m)(Y:a.eval y=.int Z n)(h0 : 0<=n)(h1:n<=k.bits):Yd P o a w (.int k (m.fdiv (2 ^ n.toNat))):=by
 have I:¬n<0:=by omega
 have S:min n.toNat k.bits=n.toNat:=by omega
 simp[Yd,execOp,V,W,Y,eqGuard,binOp,Op.shift,I,S]
theorem aaH{op:BinOp}{m n:List UInt8}{side:Prop}{d:D}(I:lr op m n=some (side,d))(V:side):∃v,Rd w (fun _=>False) v d /\
  (∀{t u:TypeId}{x y:Operand},o.op=.binOp op t x y u->a.eval x=.string ⟨m.toArray⟩->a.eval y=.string ⟨n.toArray⟩->Yd P o a w v):=by
 have hg:∀t x y w,(eqGuard op t x y (.string ⟨m.toArray⟩) (.string ⟨n.toArray⟩)).run P w=.ok () w:=by
  intro t x y w;unfold eqGuard;cases op<;>rfl
 have hl:∀l:List UInt8,(⟨l.toArray⟩:ByteArray).toList=l:=fun l=>by rw[ByteArray.toList_eq]
 cases op<;>simp only[lr,Option.some.injEq,Prod.mk.injEq,reduceCtorEq] at I
 case add =>
  obtain⟨h1,rfl⟩:=I;rw[<-h1] at V;refine⟨.string ⟨(m++n).toArray⟩,Rd.str (by simpa using V),fun S W Y=>?_⟩
  have Z:(m.length:Int)+n.length<=9223372036854775807:=by
   simp only[maxLen] at V;omega
  have h3:(⟨m.toArray⟩++⟨n.toArray⟩:ByteArray)=⟨(m++n).toArray⟩:=by
   apply ByteArray.ext;simp
  have h4:(⟨m.toArray⟩:ByteArray).size=m.length:=rfl;have h5:(⟨n.toArray⟩:ByteArray).size=n.length:=rfl;simp[Yd,execOp,S,W,Y,hg,binOp,Op.stringOp,Z,h3,h4,h5]
 all_goals
  obtain⟨-,rfl⟩:=I;exact⟨_,Rd.bool,fun S W Y=>by simp[Yd,execOp,S,W,Y,hg,binOp,Op.stringOp,hl]⟩
theorem abE{c x y:Operand}(S:o.op=.pick c x y){cb p q:Bool}(I:a.eval c=.bool cb)(V:cb=true->a.eval x=.bool p)(W:cb=false->a.eval y=.bool q) :
  Yd P o a w (.bool (oB cb p q)):=by
 cases cb
 ·simp[Yd,execOp,S,I,W,asBool,oB]
 ·simp[Yd,execOp,S,I,V,asBool,oB]
theorem abD{x:Operand}{t:TypeId}(I:o.op=.unOp .not t x){b:Bool}(S:a.eval x=.bool b):Yd P o a w (.bool (!b)):=by
 simp[Yd,execOp,I,S,Op.unary]
theorem lA{k:IntKind}{n:Int}(h:k.has n):k.wrap n=n:=by
 obtain⟨h1,I⟩:=h;cases k<;>simp[IntKind.min,IntKind.max,IntKind.wrap,IntKind.signed,IntKind.bits] at *<;>(first | omega | (split<;>omega))
theorem abr{s d:TypeId}{x:Operand}(W:o.op=.convert s d x){I Z k:IntKind}(h1:P.underlying s=some (.int Z))(V:P.underlying d=some (.int k)){n:Int}(Y:a.eval x=.int I n)(S:I.has n) :
  Yd P o a w (.int k (if I=k then n else k.wrap n))/\k.has (if I=k then n else k.wrap n):=by
 have:Yd P o a w (.int k (k.wrap n)):=by simp[Yd,execOp,W,Y,convert,run_underlying h1,run_underlying V,Conv.intToInt]
 by_cases hk:I=k
 ·subst hk;simp only[if_true];rw[lA S] at this;exact⟨this,S⟩
 ·simp only[hk,if_false];exact⟨this,xE _ _⟩
def wi:Bool->Builtin
 | true=>.max
 | false=>.min
theorem abC{mx:Bool}{k:IntKind}{m n:Int}{W:Array TypeId}{x y:Operand}(I:o.op=.call { callee:=.builtin (wi mx),args:=#[x,y],argTypes:=W })(S:a.eval x=.int k m)(V:a.eval y=.int k n):Yd P o a w (.int k (nf mx m n)):=by
 cases mx
 ·simp only[wi] at I
  have e:(if n<m then n else m)=min m n:=by split<;>omega
  simp[Yd,execOp,I,S,V,resolve,invoke,builtin,Builtin.min_,Builtin.min2,nf,e]
 ·simp only[wi] at I
  have e:(if m<n then n else m)=max m n:=by split<;>omega
  simp[Yd,execOp,I,S,V,resolve,invoke,builtin,Builtin.max_,Builtin.max2,nf,e]
theorem SC{mx:Bool}{k:IntKind}{m n:Int}(hm:k.has m)(I:k.has n):k.has (nf mx m n):=by
 obtain⟨h1,S⟩:=hm;obtain⟨V,W⟩:=I;cases mx<;>exact⟨by simp only[nf];omega,by simp only[nf];omega⟩
theorem abz{t e:TypeId}{x:Operand}(I:o.op=.call { callee:=.builtin .len,args:=#[x],argTypes:=#[t] })(S:P.underlying t=some (.slice e)){p:Option Addr}{n c:Nat}
  (V:a.eval x=.slice p n c):Yd P o a w (.int .i64 n):=by
 simp[Yd,execOp,I,V,resolve,invoke,builtin,Builtin.len_,run_underlying S,goInt]
theorem abA{t:TypeId}{x:Operand}(I:o.op=.call { callee:=.builtin .len,args:=#[x],argTypes:=#[t] })(S:P.underlying t=some .string){l:List UInt8}
  (V:a.eval x=.string ⟨l.toArray⟩):Yd P o a w (.int .i64 l.length):=by
 simp[Yd,execOp,I,V,resolve,invoke,builtin,Builtin.len_,run_underlying S,goInt];rfl
theorem Np{t e:TypeId}{x i:Operand}(W:o.op=.indexAddr t x i)(Y:P.underlying t=some (.slice e)){sz:Nat}{inf:TypeInfo}(hi:P.info? e=some inf)(S:inf.size=sz)
  {b off n c:Nat} (Z:a.eval x=.slice (some ⟨b,off,none⟩) n c) {k:IntKind} {m:Int} (hm:a.eval i=.int k m) (V : 0<=m) (h1:m<n):Yd P o a w (.pointer (some ⟨b,off+m.toNat*sz,none⟩)):=by
 have I:(⟨b,off,none⟩:Addr).add (m.toNat*sz)=⟨b,off+m.toNat*sz,none⟩:=by
  unfold Addr.add;split<;>simp_all
 simp[Yd,execOp,W,Z,hm,Instr.indexAt,asIntOf,run_underlying Y,V,h1,sizeOf,typeInfo,hi,S,I]
theorem zo{t:TypeId}(h:lN P t=true):(isAgg t).run P w=.ok false w:=by
 unfold lN at h;cases hu:P.underlying t with
 | none=>simp[hu] at h
 | some d=>cases d<;>simp[hu] at h<;>simp[isAgg,run_underlying hu]
theorem GP{t:TypeId}(h:sR P t=true):(isAgg t).run P w=.ok true w:=by
 unfold sR at h;cases hu:P.underlying t with
 | none=>simp[hu] at h
 | some d=>cases d<;>simp[hu] at h<;>simp[isAgg,run_underlying hu]
theorem BB{t:TypeId}{n:Nat}(h:eG P t n=true):(sizeOf t).run P w=.ok n w:=by
 unfold eG at h;cases hi:P.info? t with
 | none=>simp[hi] at h
 | some i=>simp[hi] at h;simp[sizeOf,typeInfo,hi,h]
theorem abx{t:TypeId}{x:Operand}(S:o.op=.load t x)(V:lN P t=true){b off:Nat}(W:a.eval x=.pointer (some ⟨b,off,none⟩)){v:Value}(I:w.cell? ⟨b,off,none⟩=some v):Yd P o a w v:=by
 simp[Yd,execOp,S,W,Instr.loadAt,Instr.sureAddr,loadVar,zo V,I]
theorem aby{t:TypeId}{x:Operand}{n:Nat}(Z:o.op=.load t x)(ht:sR P t=true)(Y:eG P t n=true){b off:Nat}(hx:a.eval x=.pointer (some ⟨b,off,none⟩)){cs:List Value}
  (W:cs.length=n) (S:∀j v,cs[j]?=some v->w.cell? ⟨b,off+j,none⟩=some v):Yd P o a w (.agg cs.toArray):=by
 have h:=run_loadCells_list (P:=P) w ⟨b,off,none⟩ cs (fun j v V=>by
  have I:(⟨b,off,none⟩:Addr).add j=⟨b,off+j,none⟩:=by unfold Addr.add;split<;>simp_all
  rw[I];exact S j v V)
 simp[Yd,execOp,Z,hx,Instr.loadAt,Instr.sureAddr,loadVar,GP ht,BB Y,<-W,h]
theorem xF{t:TypeId}{x:Operand}{f:Nat}(ho:o.op=.fieldAddr t x f){off:Nat}{W:TypeId}(S:lQ P t f=some (off,W))(hz:eG P W 0=false)(hs:(P.info? W).isSome=true){b k:Nat}
  (hx:a.eval x=.pointer (some ⟨b,k,none⟩)):Yd P o a w (.pointer (some ⟨b,k+off,none⟩)):=by
 unfold lQ at S;cases hu:P.underlying t with
 | none=>simp[hu] at S
 | some d =>
  cases d<;>simp[hu] at S;obtain⟨V,Y,h1,h2⟩:=S;subst h2;subst h1;cases hi:P.info? V.type with
  | none=>simp[hi] at hs
  | some i =>
   have Z:¬i.size=0:=by simpa[eG,hi] using hz
   have I:(⟨b,k,none⟩:Addr).add V.offset=⟨b,k+V.offset,none⟩:=by unfold Addr.add;split<;>simp_all
   simp[Yd,execOp,ho,hx,Instr.fieldAt,run_underlying hu,Y,Instr.sureAddr,fieldPlace,sizeOf,typeInfo,hi,Z,I]
theorem Ay{t:TypeId}(I:lN P t=true){cs:Array Value}{off:Nat}(h:off<cs.size):(part t cs off).run P w=.ok (cs.getD off undef) w:=by
 simp[part,zo I,h]
theorem abv{t:TypeId}{x:Operand}{f:Nat}(ho:o.op=.field t x f){off:Nat}{W:TypeId}(S:lQ P t f=some (off,W))(Z:lN P W=true){cs:Array Value}
  (hx:a.eval x=.agg cs) (I:off<cs.size):Yd P o a w (cs.getD off undef):=by
 unfold lQ at S;cases hu:P.underlying t with
 | none=>simp[hu] at S
 | some d =>
  cases d<;>simp[hu] at S;obtain⟨fl,V,h1,Y⟩:=S;subst Y;subst h1;simp[Yd,execOp,ho,hx,Instr.field,run_underlying hu,V,asAgg,Ay Z I]
theorem abw{t:TypeId}{x i:Operand}(V:o.op=.index t x i)(Y:P.underlying t=some .string){l:List UInt8}(Z:a.eval x=.string ⟨l.toArray⟩){k:IntKind}{m:Int}(hm:a.eval i=.int k m)
  (S : 0<=m) (h1:m<l.length):Yd P o a w (.int .u8 (l.getD m.toNat 0).toNat)/\IntKind.u8.has ((l.getD m.toNat 0).toNat:Int):=by
 have I:m.toNat<l.length:=by omega
 have W:(⟨l.toArray⟩:ByteArray)[m.toNat]?=some (l.getD m.toNat 0):=by
  show(if h:m.toNat<(⟨l.toArray⟩:ByteArray).size then some _ else none)=_;rw[dif_pos (show m.toNat<(⟨l.toArray⟩:ByteArray).size from I)];simp[List.getD,I];rfl
 refine⟨?_,?_⟩
 ·simp[Yd,execOp,V,Z,hm,Instr.index,asIntOf,run_underlying Y,S,W]
 ·generalize l.getD m.toNat 0=c
  have:=c.toNat_lt;constructor<;>simp[IntKind.min,IntKind.max,IntKind.signed,IntKind.bits]<;>omega
theorem abu{x:Operand}{i:Nat}(I:o.op=.extract x i){cs:Array Value}(S:a.eval x=.tuple cs)(hi:i<cs.size):Yd P o a w (cs.getD i undef):=by
 simp[Yd,execOp,I,S,Instr.extract,hi]
theorem xH{x:Operand}(I:o.op=.nilCheck x){p:Addr}(S:a.eval x=.pointer (some p)):Yd P o a w (.pointer (some p)):=by
 simp[Yd,execOp,I,S]
theorem Nq{x:Operand}(I:o.op=.nilCheck x){f:FuncId}{l r:Array Value}(S:a.eval x=.func (.func f) l r):Yd P o a w (.func (.func f) l r):=by
 simp[Yd,execOp,I,S]
end
end Go.D3
namespace Go.D3
open Go
section
variable{w:World}{ct:Nat->D}{vl:Nat->Value}{A:Nat->Prop}
def Reach(w:World)(ct:Nat->D)(vl:Nat->Value)(k:Nat)(p:Path)(v:Value)(y:D):Prop :=
 ∀q,y.has q->(ct k).aZ (p++q)/\aR w (vl k) (ct k) (p++q)=aR w v y q/\(q≠[]->aJ w (vl k) (ct k) (p++q)=aJ w v y q)
theorem Reach.aY{k:Nat}{p:Path}{v:Value}{y:D}(h:Reach w ct vl k p v y){i off:Nat}(hk:y.lW i off){u:Value}(hu:cG w v y i off=some u):Reach w ct vl k (p++[(i,off)]) u (y.aY i off):=by
 intro q W;obtain⟨h1,S,V⟩:=h ((i,off)::q) ⟨hk,W⟩;rw[List.append_assoc,List.singleton_append];refine⟨h1,?_,fun I=>?_⟩
 ·rw[S];simp only[aR,hu,Option.bind_some]
 ·rw[V (by simp)]
  cases q with
  | nil=>exact absurd rfl I
  | cons t q=>simp only[aJ,hu,Option.bind_some]
theorem Reach.root{k:Nat}{x:D}{F:Nat->Prop}(I:ct k=.o x)(h:aq w A (vl k) x F):Reach w ct vl k [] (vl k) x:=by
 intro q S;rw[List.nil_append,I];exact⟨S,(iG h w q).1,fun _=>(iG h w q).2⟩
theorem Reach.part{R:Value->D->Prop}{k:Nat}{F:Nat->Prop}(h:aN w A R (vl k) F (ct k)){p:Path}(hp:(ct k).aZ p)(Y:p≠[]){u:Value}(hu:aR w (vl k) (ct k) p=some u){F':Nat->Prop}
  (V:bD (ct k) p=true->(ct k).at p=.o ((ct k).bm p)) (ad:aq w A u ((ct k).bm p) F'):Reach w ct vl k p u ((ct k).bm p):=by
 intro q S
 have W:∀q,aR w u ((ct k).at p) q=aR w u ((ct k).bm p) q/\aJ w u ((ct k).at p) q=aJ w u ((ct k).bm p) q:=by
  intro q;by_cases hl:(ct k).at p=.o ((ct k).bm p)
  ·rw[hl];exact iG ad w q
  ·have:(ct k).at p=(ct k).bm p:=by
    unfold D.bm at hl|-
    generalize(ct k).at p=z at hl|-
    cases z<;>first | rfl | (exfalso;exact hl rfl)
   rw[this];exact⟨rfl,rfl⟩
 refine⟨?_,?_,fun ag=>?_⟩
 ·revert hp V S
  unfold D.bm;intro hp V S;cases hc:ct k<;>rw[hc] at hp V S<;>try exact hp.elim
  case row z l=>exact absurd hp Y
  case o x =>
   rw[hc] at h;rw[D.nO h Y] at S
   have hx:(x.at p).un=x.at p:=by
    obtain⟨_,_,_,g1,g2,_⟩:=aq.splitAt p h hp;exact g2.un.1
   rw[hx] at S;exact(nZ x p q).2 ⟨hp,S⟩
  case box l =>
   cases p with
   | nil=>exact absurd rfl Y
   | cons s p =>
    obtain⟨i,off⟩:=s;obtain⟨rfl,ho,hp⟩:=hp;have hk:D.aY (.box l) 0 off=l.getD off .dead:=rfl;cases p with
    | nil =>
     cases q with
     | nil=>exact⟨rfl,ho,trivial⟩
     | cons t q =>
      have Z:=V rfl;have e:(D.box l).at [(0,off)]=l.getD off .dead:=rfl;rw[e] at Z S;refine⟨rfl,ho,?_⟩;rw[Z];exact S
    | cons t p =>
     simp only at hp;split at hp
     ·rename_i y hy
      rw[hc] at h;obtain⟨_,b,cs,e,Fs,h1,h2,h3,h4,h5,h6,h7⟩:=h
      have ab:l[off]?=some (.o y):=by
       rw[List.getD_eq_getElem?_getD,List.getElem?_eq_getElem ho] at hy;rw[List.getElem?_eq_getElem ho];simpa using hy
      have I:=h4 off _ ab;simp only[ca] at I;have e:(D.box l).at ((0,off)::t::p)=y.at (t::p):=by rw[D.at,hk,hy,D.nO I (by simp)]
      rw[e] at S
      have hx:(y.at (t::p)).un=y.at (t::p):=by
       obtain⟨_,_,_,g1,g2,_⟩:=aq.splitAt (t::p) I hp;exact g2.un.1
      rw[hx] at S;refine⟨rfl,ho,?_⟩;rw[hy];exact(nZ y (t::p) q).2 ⟨hp,S⟩
     ·exact hp.elim
 ·rw[aba,hu,Option.bind_some];exact(W q).1
 ·rw[sP w p q _ _ ag,hu,Option.bind_some];exact(W q).2
theorem yP(k:Nat)(p:Path):∀(l:List D)(j n:Nat),(kB k p j l)[n]?=(l[n]?).map (dc k (p++[(0,j+n)]))
 | [],j,n=>by simp[kB]
 | x::r,j,0=>by simp[kB]
 | x::r,j,n+1=>by
  simp only[kB,List.getElem?_cons_succ,yP k p r (j+1) n];rw[show j+1+n=j+(n+1) by omega]
theorem yQ(k:Nat)(p:Path):∀(l:List D)(j:Nat),(kB k p j l).length=l.length
 | [],_=>rfl
 | x::r,j=>by simp[kB,yQ k p r]
theorem Hz(c:D)(p:Path)(s t:Nat×Nat):bD c (p++[s]++[t])=false:=by
 have:∃a b r,p++[s]++[t]=a::b::r:=by
  cases p with
  | nil=>exact⟨s,t,[],rfl⟩
  | cons a p=>cases p with
   | nil=>exact⟨a,s,[t],rfl⟩
   | cons b p=>exact⟨a,b,p++[s]++[t],rfl⟩
 obtain⟨a,b,r,h⟩:=this;rw[h];cases c<;>rfl
theorem yR{k:Nat}(y:D):∀{p:Path}{v:Value}{F:Nat->Prop},aq w A v y F->(bD (ct k) p=true->((ct k).at p).iT=true)->(∀s,bD (ct k) (p++[s])=false)->Reach w ct vl k p v y->Pl w A (ai w ct vl) v (dc k p y):=by
 induction y using D.ind with
 | int a n=>intro p v F h _ _ _;cases h with | int h=>exact .rd (.int h)
 | bool b=>intro p v F h _ _ _;cases h;exact .rd .bool
 | str s=>intro p v F h _ _ _;cases h with | str h=>exact .rd (.str h)
 | bd=>intro p v F h _ _ _;cases h;exact .rd .bd
 | fn f caps _=>intro p v F h _ _ _;cases h;exact .rd (.fn rfl (fun j x hx=>by simp at hx))
 | vw x _=>intro p v F h _ _ _;cases h with | vw h=>exact .rd h
 | slice z l _ _ =>
  intro p v F h Y hN I;obtain⟨h1,W,_⟩:=I [] trivial;rw[List.append_nil] at h1 W;refine .ref ⟨⟨h1,Y⟩,W,?_⟩;cases h with
  | nil=>exact .inl ⟨_,_,_,rfl⟩
  | slice=>exact .inl ⟨_,_,_,rfl⟩
 | mp ks vs _ _ =>
  intro p v F h Y hN I;obtain⟨h1,W,_⟩:=I [] trivial;rw[List.append_nil] at h1 W;refine .ref ⟨⟨h1,Y⟩,W,?_⟩;cases h with
  | mp=>exact .inr (.inl ⟨_,rfl⟩)
 | bS=>intro p v F h _ _ _;cases h;exact .rd .bS
 | bz=>intro p v F h _ _ _;cases h;exact .rd .bz
 | b6 s p=>intro p v F h _ _ _;exact Pl.dead
 | ia n=>intro p v F h _ _ _;exact Pl.dead
 | sb T e s =>
  intro p v F h Y hN I;obtain⟨h1,W,_⟩:=I [] trivial;rw[List.append_nil] at h1 W;refine .ref ⟨⟨h1,Y⟩,W,?_⟩;cases h with
  | sb=>exact .inr (.inr ⟨_,rfl⟩)
 | bE t x _=>intro p v F h _ _ _;cases h with | bE h=>exact .rd (.bE h)
 | ptr l _ =>
  intro p v F h Y hN I;cases l with
  | nil=>exact Pl.dead
  | cons x r =>
   have ad:=h.un.1;obtain⟨h1,_,h3⟩:=I [(0,0)] ⟨by unfold D.lW;rw[ad];exact⟨rfl,by simp⟩,trivial⟩;have h3:=h3 (by simp);simp only[dc];cases h with
   | ptr Fs hb hs S hF ab Z =>
    refine .ref ⟨h1,_,h3,?_⟩;simp only[Nat.add_zero]
 | agg l ih =>
  intro p v F h Y hN I;cases h with
  | @agg cs _ _ Fs hs S ab Z =>
   refine .agg (by rw[yQ];exact hs) fun j x hx=>?_
   rw[yP,Option.map_eq_some_iff] at hx;obtain⟨y,V,rfl⟩:=hx;obtain⟨hj,ag⟩:=List.getElem?_eq_some_iff.1 V;rw[Nat.zero_add]
   have hk:(D.agg l).aY 0 j=y:=by
    show l.getD j .dead=y;rw[List.getD_eq_getElem?_getD,V];rfl
   have:=Reach.aY (i:=0) (off:=j) (u:=cs.getD j undef) I ⟨rfl,hj⟩ rfl;rw[hk] at this;exact ih y (List.mem_of_getElem? V) (S j y V) (fun hl=>by rw[hN] at hl;cases hl) (fun s=>Hz _ _ _ s) this
 | av l ih =>
  intro p v F h Y hN I;cases h with
  | @av cs _ _ Fs hs S ab Z =>
   refine .av (by rw[yQ];exact hs) fun j x hx=>?_
   rw[yP,Option.map_eq_some_iff] at hx;obtain⟨y,V,rfl⟩:=hx;obtain⟨hj,ag⟩:=List.getElem?_eq_some_iff.1 V;rw[Nat.zero_add]
   have hk:(D.av l).aY 0 j=y:=by
    show l.getD j .dead=y;rw[List.getD_eq_getElem?_getD,V];rfl
   have:=Reach.aY (i:=0) (off:=j) (u:=cs.getD j undef) I ⟨rfl,hj⟩ rfl;rw[hk] at this;exact ih y (List.mem_of_getElem? V) (S j y V) (fun hl=>by rw[hN] at hl;cases hl) (fun s=>Hz _ _ _ s) this
 | _=>intro p v F h _ _ _;exact Pl.dead
def cC(w:World)(A:Nat->Prop)(R:Value->D->Prop)(v:Value)(d:D):Prop:=(d.gate=true->Pl w A R v d.core)/\(d.gate=false->v=undef)
theorem Pz{d:D}(h:∀g x,d≠.when g x):d.core=d/\d.gate=true:=by
 cases d<;>first | exact⟨rfl,rfl⟩ | exact absurd rfl (h _ _)
theorem Pl.qk{R:Value->D->Prop}{v:Value}{d:D}(h:Pl w A R v d)(V:∀v g x,¬R v (.when g x)):cC w A R v d:=by
 have:∀g x,d≠.when g x:=by
  rintro g x rfl;cases h with
  | rd h=>cases h
  | ref h=>exact V _ _ _ h
 obtain⟨h1,S⟩:=Pz this;exact⟨fun _=>by rw[h1];exact h,fun I=>by rw[S] at I;cases I⟩
theorem qq(v:Value)(g:Bool)(x:D):¬ai w ct vl v (.when g x):=fun h=>h
theorem oA{k:Nat}{F:Nat->Prop}(h:aN w A (ai w ct vl) (vl k) F (ct k)):cC w A (ai w ct vl) (vl k) (cB k (ct k)):=by
 cases hc:ct k<;>rw[hc] at h<;>try exact Pl.qk h qq
 case o x=>exact Pl.qk (yR x h (fun I=>by rw[hc] at I;cases I) (fun s=>by rw[hc];rfl) (Reach.root hc h)) qq
 case box l =>
  obtain⟨V,b,cs,e,Fs,h1,S,W,Y,Z,h6,h7⟩:=h;refine Pl.qk (.ref ⟨?_,⟨b,0,none⟩,?_,h1⟩) qq
  ·rw[hc];exact⟨rfl,V,trivial⟩
  ·rw[hc,h1];rfl
 case row z l =>
  refine Pl.qk (.ref ⟨?_,?_,?_⟩) qq
  ·rw[hc];exact⟨rfl,fun I=>by cases I⟩
  ·rfl
  ·obtain⟨b,sz,cs,e,h1,_⟩:=h
   exact .inl ⟨_,_,_,h1⟩
 case when g c =>
  obtain⟨h1,S⟩:=h;have key:∀(c:D),(g=true->Pl w A (ai w ct vl) (vl k) c)->(g=true->cC w A (ai w ct vl) (vl k) c):=fun c h hg=>(h hg).qk qq
  have h1:=key c h1;show cC w A _ _ (.when g c);cases g with
  | true=>exact⟨fun hg=>(h1 rfl).1 (by simpa[D.gate] using hg),fun hg=>(h1 rfl).2 (by simpa[D.gate] using hg)⟩
  | false=>exact⟨fun hg=>by simp[D.gate] at hg,fun _=>S rfl⟩
theorem Hy{c:D}{p:Path}(hp:p≠[])(s:Nat×Nat):bD c (p++[s])=false:=by
 cases p with
 | nil=>exact absurd rfl hp
 | cons a p=>cases p<;>cases c<;>rfl
theorem zF{k:Nat}{F:Nat->Prop}(h:aN w A (ai w ct vl) (vl k) F (ct k)){p:Path}(hp:(ct k).aZ p)(I:p≠[]){a:Addr}(Y:aJ w (vl k) (ct k) p=some a) :
  ∃u,w.cell? a=some u/\a.spot=none/\Pl w A (ai w ct vl) u (pU k (ct k) p):=by
 obtain⟨u,F1,F2,g1,g2,g3,g4,g5,g6,g7⟩:=h.splitAt hp I;obtain⟨j1,Z,j3,_⟩:=g7 a Y;refine⟨u,j3,Z,?_⟩;unfold pU gh at *;cases hl:bD (ct k) p with
 | true =>
  rw[hl] at g2;simp only at g2|-
  generalize W:(ct k).at p=c at g2;cases c<;>try exact g2
  all_goals try exact g2.elim
  case o x =>
   have S:(ct k).bm p=x:=by unfold D.bm;rw[W];rfl
   have:=Reach.part h hp I g1 (fun _=>by rw[S,W]) (by rw[S];exact g2);rw[S] at this;exact yR x g2 (fun _=>by rw[W];rfl) (Hy I) this
 | false =>
  rw[hl] at g2;simp only at g2|-
  have S:(ct k).bm p=(ct k).at p:=g2.un.1;have:=Reach.part h hp I g1 (fun V=>by rw[hl] at V;cases V) (by rw[S];exact g2);rw[S] at this;exact yR _ g2 (fun V=>by rw[hl] at V;cases V) (Hy I) this
theorem o8{k:Nat}{F:Nat->Prop}(h:aN w A (ai w ct vl) (vl k) F (ct k)){p:Path}{v:Value}(hr:ai w ct vl v (.sub k p)) :
  (∃z l,ct k=.row z l/\p=[]/\v=vl k)\/(∃F',aq w A v ((ct k).bm p) F'/\(∀b,F' b->F b)/\Reach w ct vl k p v ((ct k).bm p)/\(∀z l,ct k≠.row z l))\/∃l,ct k=.box l/\p=[]:=by
 obtain⟨⟨h1,hS⟩,S,ab⟩:=hr;cases p with
 | nil =>
  simp only[aR,Option.some.injEq] at S;cases Y:ct k<;>rw[Y] at h h1<;>try exact h1.elim
  case o x =>
   refine .inr (.inl ⟨F,by rw[<-S];exact h,fun _ h=>h,?_,by simp⟩);rw[<-S];exact Reach.root Y h
  case box l =>
   exact .inr (.inr ⟨l,rfl,rfl⟩)
  case row z l=>exact .inl ⟨z,l,rfl,rfl,S.symm⟩
 | cons s p =>
  obtain⟨u,F1,F2,g1,g2,g3,g4,g5,g6,g7⟩:=h.splitAt h1 (by simp);rw[g1] at S;injection S with S
  subst S
  have V:∀z l,ct k≠.row z l:=by
   intro z l Y;rw[Y] at h1;exact absurd h1 (by simp[D.aZ])
  unfold gh at g2;cases hl:bD (ct k) (s::p) with
  | false =>
   rw[hl] at g2;simp only at g2;have Z:(ct k).bm (s::p)=(ct k).at (s::p):=g2.un.1;have I:aq w A u ((ct k).bm (s::p)) F1:=by rw[Z];exact g2
   exact .inr (.inl ⟨F1,I,g3,Reach.part h h1 (by simp) g1 (fun hh=>by rw[hl] at hh;cases hh) I,V⟩)
  | true =>
   rw[hl] at g2;simp only at g2;obtain⟨x,W⟩:=zq (hS hl);rw[W] at g2;have Z:(ct k).bm (s::p)=x:=by unfold D.bm;rw[W];rfl
   have I:aq w A u ((ct k).bm (s::p)) F1:=by rw[Z];exact g2
   exact .inr (.inl ⟨F1,I,g3,Reach.part h h1 (by simp) g1 (fun _=>by rw[Z,W]) I,V⟩)
end
end Go.D3
namespace Go.D3
open Go
def dy:List UInt8->List UInt8->Bool
 | [],[]=>true
 | a::l,b::r=>a == b&&dy l r
 | _,_=>false
def aP(ds:List (Option Nat))(tr:List Nat)(x:Operand)(y:X):Bool :=
 match x,y with
 | .tmp t,.t i=>decide (ds[i]?=some (some t))
 | .tmp t,.v j=>decide (tr[j]?=some t)
 | .const (.int k n),.i m=>decide (k=.i64)&&decide (n=m)&&tQ k n
 | .const (.int k n),.k (.int k' m)=>decide (k=k')&&decide (n=m)&&tQ k n
 | .const (.bool b),.k (.bool c)=>b == c
 | .const (.string s),.k (.str l)=>dy s.data.toList l&&decide (l.length<=65536)
 | .const (.slice none 0 0),.k (.aH _)=>true
 | .const (.pointer none),.k .bd=>true
 | .func f,.k (.fn I [])=>f == I
 | .global g,.g n=>g == n&&(gl n).isSome
 | .const .nilIface,.k .bz=>true
 | _,_=>false
def fh(ds:List (Option Nat))(tr:List Nat):List Operand->List X->Bool
 | [],[]=>true
 | x::l,y::r=>aP ds tr x y&&fh ds tr l r
 | _,_=>false
def pO(ds:List (Option Nat))(tr:List Nat):Option Operand->Option X->Bool
 | none,none=>true
 | some x,some y=>aP ds tr x y
 | _,_=>false
def iK(v:Value)(d:D):Bool :=
 match v,d with
 | .int k n,.int k' m=>decide (k=k')&&decide (n=m)&&tQ k n
 | .bool b,.bool c=>b == c
 | .string s,.str []=>s.data.toList.isEmpty
 | .nilFunc,.dead=>true
 | .slice none 0 0,.slice _ []=>true
 | .pointer none,.bd=>true
 | .map none,.bS=>true
 | .nilIface,.bz=>true
 | _,_=>false
def sH:List Value->List D->Bool
 | [],[]=>true
 | v::l,d::r=>iK v d&&sH l r
 | _,_=>false
def nG(P:Program)(t:TypeId)(zs:List D):Bool :=
 match P.info? t with
 | some i=>match i.zero with
  | some z=>sH z.cells.toList zs&&decide (i.size=zs.length)
  | none=>false
 | none=>false
def Ea:D->D
 | .vw (.aH z)=>.slice z []
 | d=>d
def nE:D->D
 | .aH z=>.slice z []
 | d=>d
def oe(P:Program)(t:TypeId)(k:Nat):Bool:=match P.underlying t,k with
 | some (.int _),0=>true
 | some .bool,1=>true
 | some .string,2=>true
 | _,_=>false
def eqFields(P:Program):Nat->List Field->List Nat->Bool
 | _,[],[]=>true
 | i,f::r,k::ks=>f.name != "_"&&decide (f.offset=i)&&oe P f.type k&&eqFields P (i+1) r ks
 | _,_,_=>false
def pM(P:Program)(ds:List (Option Nat))(tr:List Nat)(t:TypeId):List (Nat×Operand)->List (Nat×Nat×X)->Bool
 | [],[]=>true
 | (i,x)::l,(off,n,y)::r=>(match lQ P t i with
     | some (o,ft)=>decide (o=off)&&eG P ft n
     | none=>false)&&aP ds tr x y&&pM P ds tr t l r
 | _,_=>false
def Gf(P:Program)(t:TypeId):Bool:=match P.underlying t with
 | some (.struct fs)=>fs.toList.all fun f=>(P.info? f.type).isSome
 | _=>false
def jU(ds:List (Option Nat))(tr:List Nat):List (Nat×Operand)->List (Nat×X)->Bool
 | [],[]=>true
 | (i,x)::l,(j,y)::r=>i == j&&aP ds tr x y&&jU ds tr l r
 | _,_=>false
def wI:Op->Option Operand
 | .move x=>some x
 | .assign x=>some x
 | _=>none
def As:Op->Option (Operand×Operand×Operand)
 | .pick c a b=>some (c,a,b)
 | _=>none
def qd:Op->Option (BinOp×TypeId×Operand×Operand)
 | .binOp op t x y _=>some (op,t,x,y)
 | _=>none
def Aq:Op->Option Operand
 | .unOp .not _ x=>some x
 | _=>none
def ua:Op->Option (TypeId×TypeId×Operand)
 | .convert s d x=>some (s,d,x)
 | _=>none
def oz(b:Builtin):Op->Option (List Operand×List TypeId)
 | .call c=>match c.callee with
  | .builtin b'=>if b=b' then some (c.args.toList,c.argTypes.toList) else none
  | _=>none
 | _=>none
def rW:Op->Option (FuncId×List Operand)
 | .call c=>match c.callee with
  | .value (.func f)=>some (f,c.args.toList)
  | _=>none
 | _=>none
def Ad:Op->Option (Operand×List Operand)
 | .call c=>match c.callee with
  | .value x=>some (x,c.args.toList)
  | _=>none
 | _=>none
def Ah:Op->Option (TypeId×Operand×Operand)
 | .indexAddr t x i=>some (t,x,i)
 | _=>none
def wH:Op->Option (TypeId×Operand)
 | .load t x=>some (t,x)
 | _=>none
def ud:Op->Option (TypeId×Operand×Operand)
 | .store t x y=>some (t,x,y)
 | _=>none
def Af:Op->Option (TypeId×Operand×Nat)
 | .fieldAddr t x f=>some (t,x,f)
 | _=>none
def Ag:Op->Option (TypeId×Operand×Nat)
 | .field t x f=>some (t,x,f)
 | _=>none
def Aa:Op->Option (TypeId×Array (Nat×Operand))
 | .build t ps=>some (t,ps)
 | _=>none
def Ai:Op->Option (TypeId×Operand×Operand)
 | .index t x i=>some (t,x,i)
 | _=>none
def Ae:Op->Option (Operand×Nat)
 | .extract x i=>some (x,i)
 | _=>none
def Ap:Op->Option Operand
 | .nilCheck x=>some x
 | _=>none
def tY:Op->Option (TypeId×Operand)
 | .box t x=>some (t,x)
 | _=>none
def z8:Op->Option TypeId
 | .alloc t=>some t
 | _=>none
def Am:Op->Option (TypeId×Operand×Operand)
 | .makeSlice t x y=>some (t,x,y)
 | _=>none
def tW:Op->Option (TypeId×Nat×Array (Nat×Operand))
 | .buildSlice t n ps=>some (t,n,ps)
 | _=>none
def wK:Op->Option (TypeId×Operand×Option Operand×Option Operand)
 | .slice t x lo hi none=>some (t,x,lo,hi)
 | _=>none
def Al:Op->Option TypeId
 | .makeMap t none=>some t
 | _=>none
def Aj:Op->Option (TypeId×Operand×Operand×Bool)
 | .lookup t x i ok=>some (t,x,i,ok)
 | _=>none
def Ao:Op->Option (TypeId×Operand×Operand×Operand)
 | .mapUpdate t m k v=>some (t,m,k,v)
 | _=>none
def rM(P:Program)(t:TypeId):Option (TypeId×TypeId):=match P.underlying t with
 | some (.map k e)=>some (k,e)
 | _=>none
def zeroV(P:Program)(t:TypeId)(d:D):Bool:=match P.info? t with
 | some i=>match i.zero with
  | some z=>iK z d&&d.dv
  | none=>false
 | none=>false
def Au:Op->Option (TypeId×Operand)
 | .range t x=>some (t,x)
 | _=>none
def Ar:Op->Option Operand
 | .next x true=>some x
 | _=>none
def Ak:Op->Option (TypeId×Operand)
 | .makeInterface t x=>some (t,x)
 | _=>none
def An:Op->Option (FuncId×Array Operand×Array Operand)
 | .makeFunc (.func f) first caps=>some (f,first,caps)
 | _=>none
def bb(P:Program)(ds:List (Option Nat))(tr:List Nat)(o:Oper):Kp->Bool
 | .mv y | .bo y | .ch _ y | .kr _ y | .ku _ y=>match wI o.op with
  | some x=>aP ds tr x y
  | none=>false
 | .pick c a b=>match As o.op with
  | some (c',S,b')=>aP ds tr c' c&&aP ds tr S a&&aP ds tr b' b
  | none=>false
 | .bin op x y=>match qd o.op with
  | some (op',_,I,y')=>decide (op=op')&&aP ds tr I x&&aP ds tr y' y
  | none=>false
 | .shr x y=>match qd o.op with
  | some (op',_,I,y')=>decide (op'=.shr)&&aP ds tr I x&&aP ds tr y' y
  | none=>false
 | .not x=>match Aq o.op with
  | some I=>aP ds tr I x
  | none=>false
 | .conv k x=>match ua o.op with
  | some (s,d,I)=>aP ds tr I x&&(match P.underlying s,P.underlying d with | some (.int _),some (.int Y)=>decide (k=Y) | _,_=>false)
  | none=>false
 | .len x=>match oz .len o.op with
  | some ([I],[t])=>aP ds tr I x&&(jt P t).isSome
  | _=>false
 | .mm mx x y=>match oz (wi mx) o.op with
  | some ([I,y'],_)=>aP ds tr I x&&aP ds tr y' y
  | _=>false
 | .rK x=>match oz .len o.op with
  | some ([I],[t])=>aP ds tr I x&&(match P.underlying t with | some .string=>true | _=>false)
  | _=>false
 | .aB sz x i=>match Ah o.op with
  | some (t,I,W)=>aP ds tr I x&&aP ds tr W i&&decide (0<sz)&&(match jt P t with | some e=>eG P e sz | none=>false)
  | none=>false
 | .ld a=>match wH o.op with
  | some (t,S)=>aP ds tr S a&&lN P t
  | none=>false
 | .dz n a=>match wH o.op with
  | some (t,S)=>aP ds tr S a&&sR P t&&eG P t n
  | none=>false
 | .fA off a=>match Af o.op with
  | some (t,S,f)=>aP ds tr S a&&(match lQ P t f with | some (o,ft)=>decide (o=off)&&!eG P ft 0&&(P.info? ft).isSome | none=>false)
  | none=>false
 | .ru off x=>match Ag o.op with
  | some (t,I,f)=>aP ds tr I x&&(match lQ P t f with | some (o,ft)=>decide (o=off)&&lN P ft | none=>false)
  | none=>false
 | .iP zs parts=>match Aa o.op with
  | some (t,ps)=>nG P t (zs.map nE)&&pM P ds tr t ps.toList parts&&Gf P t
  | none=>false
 | .rC x i=>match Ai o.op with
  | some (t,I,W)=>aP ds tr I x&&aP ds tr W i&&(match P.underlying t with | some .string=>true | _=>false)
  | none=>false
 | .ext i x=>match Ae o.op with
  | some (I,W)=>aP ds tr I x&&i == W
  | none=>false
 | .oo x=>match Ap o.op with
  | some I=>aP ds tr I x
  | none=>false
 | .eqs neg ks x y=>match qd o.op with
  | some (op,t,I,y')=>decide (op=if neg then .neq else .eql)&&aP ds tr I x&&aP ds tr y' y&&(match P.underlying t with | some (.struct fs)=>eqFields P 0 fs.toList ks&&!P.stoodInHeld t | _=>false)&&!P.eqGuardType P.depth t
  | none=>false
 | .call f xs=>match rW o.op with
  | some (f',as)=>f == f'&&fh ds tr as xs&&fB P f
  | none=>false
 | .jh f xs=>match rW o.op with
  | some (f',as)=>f == f'&&fh ds tr as xs&&fB P f
  | none=>false
 | .box n x=>match tY o.op with
  | some (e,I)=>aP ds tr I x&&eG P e n
  | none=>false
 | .fP n x | .my n x=>match tY o.op with
  | some (e,I)=>aP ds tr I x&&eG P e n
  | none=>false
 | .fc zs=>match z8 o.op with
  | some t=>nG P t (zs.map nE)
  | none=>false
 | .ah z bytes l c=>match Am o.op with
  | some (t,l',c')=>aP ds tr l' l&&aP ds tr c' c&&decide (0<z.cells.length)&&(match jt P t with | some e=>nG P e (z.cells.map Ea)&&pq P e bytes&&decide (0<bytes) | none=>false)
  | none=>false
 | .aU z n parts=>match tW o.op with
  | some (t,Z,ps)=>n == Z&&jU ds tr ps.toList parts&&decide (0<z.cells.length)&&decide (n*z.cells.length<=16777216)&&(match jt P t with | some e=>nG P e z.cells | none=>false)
  | none=>false
 | .mw z n parts=>match tW o.op with
  | some (t,Z,ps)=>n == Z&&jU ds tr ps.toList parts&&decide (0<z.cells.length)&&decide (n*z.cells.length<=16777216)&&(match jt P t with | some e=>nG P e z.cells | none=>false)
  | none=>false
 | .mu z x=>match tW o.op with
  | some (t,Z,ps)=>decide (Z=1)&&jU ds tr ps.toList [(0,x)]&&decide (0<z.cells.length)&&decide (z.cells.length<=16777216)&&(match jt P t with | some e=>nG P e z.cells | none=>false)
  | none=>false
 | .st a x=>match ud o.op with
  | some (t,S,I)=>aP ds tr S a&&aP ds tr I x&&eG P t 1
  | none=>false
 | .eh n a x=>match ud o.op with
  | some (t,S,I)=>aP ds tr S a&&aP ds tr I x&&eG P t n
  | none=>false
 | .mj n a x=>match ud o.op with
  | some (t,S,I)=>aP ds tr S a&&aP ds tr I x&&eG P t n
  | none=>false
 | .app sz bytes s x=>match oz .append o.op with
  | some ([s',I],[t,t'])=>aP ds tr s' s&&aP ds tr I x&&t == t'&&(match jt P t with
   | some e=>pq P e bytes&&(match P.info? e with | some i=>decide (0<sz)&&decide (0<bytes)&&decide (i.size=sz)&&i.zero.any (fun z=>decide (z.cells.size=i.size)) | none=>false) | none=>false)
  | _=>false
 | .eK sz bytes b s=>match oz .append o.op with
  | some ([s',I],[t,t'])=>aP ds tr s' (.t b)&&aP ds tr I (.t s)&&t == t'&&(match jt P t with
   | some e=>pq P e bytes&&(match P.info? e with | some i=>decide (0<sz)&&decide (0<bytes)&&decide (i.size=sz)&&i.zero.any (fun z=>decide (z.cells.size=i.size)) | none=>false) | none=>false)
  | _=>false
 | .qF x lo hi=>match wK o.op with
  | some (t,I,V,hi')=>aP ds tr I x&&pO ds tr V lo&&pO ds tr hi' hi&&(match P.underlying t with | some .string=>true | _=>false)
  | none=>false
 | .sl x lo hi=>match wK o.op with
  | some (t,I,V,hi')=>aP ds tr I x&&pO ds tr V lo&&pO ds tr hi' hi&&(match P.underlying t with | some (.slice e)=>eG P e 1 | _=>false)
  | none=>false
 | .rO f caps=>match An o.op with
  | some (f',first,captured)=>f == f'&&first.isEmpty&&fh ds tr captured.toList caps
  | none=>false
 | .dyn x xs=>match Ad o.op with
  | some (I,as)=>aP ds tr I x&&fh ds tr as xs
  | none=>false
 | .gV=>(Al o.op).isSome
 | .gU T _ x=>match tY o.op with
  | some (t,I)=>aP ds tr I x&&decide (t=T)
  | none=>false
 | .pV ok kk z m k=>match Aj o.op with
  | some (t,m',Y,ok')=>aP ds tr m' m&&aP ds tr Y k&&ok == ok'&&(match rM P t with | some (kt,e)=>oe P kt kk&&zeroV P e z | none=>false)
  | none=>false
 | .pS x=>match oz .len o.op with
  | some ([I],[t])=>aP ds tr I x&&(rM P t).isSome
  | _=>false
 | .ng kk m k v=>match Ao o.op with
  | some (t,m',Y,v')=>aP ds tr m' m&&aP ds tr Y k&&aP ds tr v' v&&(match rM P t with | some (kt,_)=>oe P kt kk | none=>false)
  | none=>false
 | .pA x=>match ua o.op with
  | some (s,d,I)=>aP ds tr I x&&(match P.underlying s,P.underlying d with
   | some (.slice e),some .string=>(match P.underlying e with | some (.int .u8)=>true | _=>false)
   | _,_=>false)
  | none=>false
 | .gM x=>match ua o.op with
  | some (s,d,I)=>aP ds tr I x&&(match P.underlying s,P.underlying d with
   | some .string,some (.slice e)=>(match P.underlying e with | some (.int .u8)=>true | _=>false)
   | _,_=>false)
  | none=>false
 | .rS neg x=>match qd o.op with
  | some (op',t,I,.const .nilIface)=>decide (op'=if neg then .neq else .eql)&&aP ds tr I x&&(match P.underlying t with | some (.interface _)=>true | _=>false)
  | _=>false
 | .p7 neg x=>match qd o.op with
  | some (op',t,I,.const (.slice none _ _))=>decide (op'=if neg then .neq else .eql)&&aP ds tr I x&&(jt P t).isSome
  | _=>false
 | .rN t x=>match Ak o.op with
  | some (t',I)=>decide (t=t')&&aP ds tr I x&&(match P.underlying t with | some (.interface _)=>false | some _=>true | none=>false)
  | none=>false
 | .e8 x=>match Au o.op with
  | some (t,I)=>aP ds tr I x&&(match P.underlying t with | some .string=>true | _=>false)
  | none=>false
 | .ni j=>match Ar o.op with
  | some I=>aP ds tr I (.v j)
  | none=>false
def closure(acc:List Nat)(o:Oper):Nat:=o.after.toList.foldl (fun s e=>if Region.binds .any e=true then s ||| (1 <<< e.on ||| acc.getD e.on 0) else s) 0
def ep:List Nat->List Oper->List Nat
 | acc,[]=>acc
 | acc,o::r=>ep (acc++[closure acc o]) r
def fU(cl:List Nat)(i x:Nat):Bool:=(cl.getD i 0).testBit x
def gY:X->List Nat
 | .t n=>[n]
 | _=>[]
def AR:Option X->List Nat
 | some x=>gY x
 | none=>[]
def Kp.reads:Kp->List Nat
 | .mv x | .bo x | .ch _ x | .kr _ x | .ku _ x | .not x | .conv _ x | .len x | .rK x | .ld x | .dz _ x | .fA _ x | .ru _ x | .ext _ x | .oo x | .box _ x | .fP _ x | .my _ x | .mu _ x | .pS x | .pA x | .p7 _ x | .rN _ x | .rS _ x | .e8 x | .gM x=>gY x
 | .fc _=>[]
 | .gV | .ni _=>[]
 | .gU _ _ x=>gY x
 | .eK _ _ b s=>[b,s]
 | .pick a b c | .ng _ a b c=>gY a++gY b++gY c
 | .bin _ x y | .shr x y | .mm _ x y | .aB _ x y | .rC x y | .eqs _ _ x y | .ah _ _ x y | .st x y | .eh _ x y | .mj _ x y | .app _ _ x y | .pV _ _ _ x y=>gY x++gY y
 | .iP _ ps=>ps.flatMap fun p=>gY p.2.2
 | .aU _ _ ps | .mw _ _ ps=>ps.flatMap fun p=>gY p.2
 | .call _ xs | .jh _ xs | .rO _ xs=>xs.flatMap gY
 | .qF x lo hi | .sl x lo hi=>gY x++AR lo++AR hi
 | .dyn x xs=>gY x++xs.flatMap gY
def Kp.xs:Kp->List X
 | .mv x | .bo x | .ch _ x | .kr _ x | .ku _ x | .not x | .conv _ x | .len x | .rK x | .ld x | .dz _ x | .fA _ x | .ru _ x | .ext _ x | .oo x | .box _ x | .fP _ x | .my _ x | .mu _ x | .pS x | .pA x | .p7 _ x | .rN _ x | .rS _ x | .e8 x | .gM x=>[x]
 | .fc _=>[]
 | .gV=>[]
 | .gU _ _ x=>[x]
 | .ni j=>[.v j]
 | .eK _ _ b s=>[.t b,.t s]
 | .pick a b c | .ng _ a b c=>[a,b,c]
 | .bin _ x y | .shr x y | .mm _ x y | .aB _ x y | .rC x y | .eqs _ _ x y | .ah _ _ x y | .st x y | .eh _ x y | .mj _ x y | .app _ _ x y | .pV _ _ _ x y=>[x,y]
 | .iP _ ps=>ps.map (·.2.2)
 | .aU _ _ ps | .mw _ _ ps=>ps.map (·.2)
 | .call _ xs | .jh _ xs | .rO _ xs=>xs
 | .qF x lo hi | .sl x lo hi=>x::lo.toList++hi.toList
 | .dyn x xs=>x::xs
def Kp.di:Kp->Option Nat
 | .ch j _ | .kr j _ | .ku j _=>some j
 | _=>none
def uc(pre:List Nat)(s:bh):Bool :=
 (match s.k.di with | some j=>!pre.contains j | none=>true)&&s.k.xs.all (fun x=>match x with | .v j=>!pre.contains j | _=>true)
def Kp.gr:Kp->Bool
 | .ch _ _ | .kr _ _ | .ku _ _ | .st _ _ | .eh _ _ _ | .mj _ _ _ | .app _ _ _ _ | .jh _ _ | .dyn _ _ | .bo _ | .my _ _ | .mu _ _ | .mw _ _ _ | .eK _ _ _ _ | .ng _ _ _ _ | .ni _=>true
 | _=>false
def Kp.mQ:Kp->Bool
 | .eK _ _ _ _=>true
 | _=>false
def bh.zp(s:bh):Bool:=s.g.isNone&&match s.k with | .mv (.v _)=>true | _=>false
def fZ(o:Oper)(s:bh):Option Nat:=match s.k.di with
 | some _=>none
 | none=>o.dst
def bY:List Oper->List bh->List (Option Nat)
 | o::l,s::r=>fZ o s::bY l r
 | _,_=>[]
def lS(P:Program)(nt:Nat)(ds:List (Option Nat))(tr:List Nat):Nat->List Oper->List bh->Bool
 | _,[],[]=>true
 | n,o::l,s::r=>(match o.dst with | some d=>decide (d<nt) | none=>true) &&
   (match s.k.di with | some j=>decide (o.dst=tr[j]?)&&decide (j<tr.length)&&s.g.isNone | none=>true) &&
   (match o.guard,s.g with
    | none,none=>true
    | some (j,want),some (i,want')=>j == i&&want == want'&&decide (i<n)&&(match ds[i]? with | some (some _)=>true | _=>false)
    | _,_=>false)&&bb P ds tr o s.k&&s.k.reads.all (fun i=>decide (i<n))&&lS P nt ds tr (n+1) l r
 | _,_,_=>false
def tL:List (Option Nat)->Bool
 | []=>true
 | none::r=>tL r
 | some d::r=>!(r.contains (some d))&&tL r
def wx:List Nat->Bool
 | []=>true
 | d::r=>!(r.contains d)&&wx r
def sT(tr pre:List Nat):List (Option Nat)->Bool
 | []=>true
 | none::r=>sT tr pre r
 | some d::r=>(tr.zipIdx.all fun p=>!(p.1 == d) || pre.contains p.2)&&sT tr pre r
def wP(ds:List (Option Nat))(tr pre:List Nat):List (Nat×Nat)->Bool
 | []=>true
 | (j,i)::r=>pre.contains j&&(match tr[j]?,ds[i]? with | some t,some (some d)=>t == d | _,_=>false)&&!((r.map (·.1)).contains j)&&wP ds tr pre r
def yb(cl:List Nat)(sl:List bh)(e b:Nat):Bool :=
 sl.zipIdx.all fun q=>decide (q.2=e) || !q.1.k.mQ&&!q.1.k.reads.contains b&&(match q.1.g with | some (i,_)=>i != b | none=>true)&&(decide (q.2<=e) || fU cl q.2 e || q.1.zp)
def vv(k:Nat)(cl:List Nat)(sl:List bh):Bool :=
 sl.zipIdx.all fun p=>(p.1.k.reads.all fun i=>fU cl p.2 i)&&(match p.1.g with | some (i,_)=>fU cl p.2 i | none=>true) &&
  (match p.1.k with
   | .eK _ _ b _=>yb cl sl p.2 b
   | kk=>!kk.gr || ((List.range p.2).all fun i=>decide (i<k) || fU cl p.2 i)&&((List.range sl.length).all fun i=>decide (i<=p.2) || fU cl i p.2))
def jL(ops:List Oper):Bool:=ops.zipIdx.all fun p=>p.1.after.toList.all fun e=>!Region.binds .any e || decide (e.on<p.2)
def Ec(vs ds:List Nat):Operand->Bool
 | .tmp t=>vs.contains t || !ds.contains t
 | _=>false
def aa9(tr vs ds:List Nat)(o:Oper):Bool :=
 o.guard.isNone&&(match o.dst with | some d=>!tr.contains d | none=>false)&&(match o.op with | .move x=>Ec vs ds x | .nilCheck x=>Ec vs ds x | .fieldAddr _ x _=>Ec vs ds x | _=>false)
def Eb(tr ds:List Nat):Nat->List Nat->List Nat->List Oper->List Nat
 | _,_,_,[]=>[]
 | i,vs,is,o::r=>if(aa9 tr vs ds o&&o.after.toList.all fun e=>!Region.binds .any e || is.contains e.on)=true then i::Eb tr ds (i+1) (o.dst.toList++vs) (i::is) r else Eb tr ds (i+1) vs is r
def FK:List Oper->List Nat
 | []=>[]
 | o::r=>o.dst.toList++FK r
def zi(tr:List Nat)(ops:Array Oper):List Nat:=Eb tr (FK ops.toList) 0 [] [] ops.toList
def zh(tr:List Nat)(ops:Array Oper):List Nat:=zi tr ops++(List.range ops.size).filter fun i=>!(zi tr ops).contains i
def posOf:List Nat->Nat->Nat
 | [],_=>0
 | i::r,j=>if i=j then 0 else posOf r j+1
def gC(ρ:Nat->Nat)(o:Oper):Oper:={ o with after:=o.after.map fun e=>{ e with on:=ρ e.on },guard:=o.guard.map fun g=>(ρ g.1,g.2) }
def gx(l:List Nat)(ops:Array Oper):Array Oper:=(l.map fun i=>gC (posOf l) (ops.getD i default)).toArray
def qh(l:List Nat)(n:Nat):Bool:=decide (l.length=n)&&((List.range n).all fun j=>decide (posOf l j<n)&&decide (l.getD (posOf l j) n=j))&&(List.range n).all fun i=>decide (l.getD i n<n)&&decide (posOf l (l.getD i n)=i)
def mO(n:Nat)(ops:List Oper):Bool:=ops.all fun o=>match o.guard with | some (j,_)=>decide (j<n) | none=>true
def bh.pN(s:bh):Bool:=s.g.isNone&&match s.k with | .mv _ | .oo _ | .fA _ _=>true | _=>false
def tI(draw:Bool)(ops:Array Oper)(l:List bh):Bool:=draw&&!vv 0 (ep [] ops.toList) l
def fR(tr:List Nat)(draw:Bool)(ops:Array Oper)(l:List bh):Array Oper:=if tI draw ops l=true then gx (zh tr ops) ops else ops
def AK(n i:Nat):Array Bool:=((List.range n).map fun j=>decide (j<i)).toArray
def IE(e:Array Oper)(k:Nat)(l:List bh):Bool:=(l.take k).all bh.pN&&Region.noSelect e&&(List.range k).all fun i=>Region.free .any e (AK e.size i) i
def kH(tr:List Nat)(draw:Bool)(ops:Array Oper)(l:List bh):Nat:=if tI draw ops l=true then(zi tr ops).length else 0
def kC(P:Program)(nt:Nat)(tr:List Nat)(ops:Array Oper)(draw:Bool)(pre:List Nat)(l:List bh)(post:List (Nat×Nat)):Bool :=
 let e:=fR tr draw ops l;let ds:=bY e.toList l
 decide (e.size=l.length)&&lS P nt ds tr 0 e.toList l&&tL ds&&sT tr pre ds&&wP ds tr pre post&&pre.all (fun j=>decide (j<tr.length))&&l.all (uc pre) &&
  (!draw || (P.follows .mixedOrders&&jL e.toList&&vv (kH tr draw ops l) (ep [] e.toList) l)) &&
  (!tI draw ops l || (qh (zh tr ops) ops.size&&mO ops.size ops.toList&&jL ops.toList&&IE e (kH tr draw ops l) l&&decide (kH tr draw ops l<=l.length)))
def rj(ops:Array Oper):Bool:=ops.toList.all fun o=>o.after.toList.all fun e=>!Region.binds .any e || decide (e.on<ops.size)
def fy(i j:Nat)(ops:Array Oper):Array Oper:=ops.modify j fun o=>{ o with after:=o.after.push ⟨i,.data⟩ }
def tp(P:Program)(nt:Nat)(tr pre:List Nat):RT->Array Oper->Bool
 | .leaf l post,ops=>kC P nt tr ops true pre l post
 | .two i j pm a b,ops=>decide (i≠j)&&decide (i<ops.size)&&decide (j<ops.size)&&rj ops&&mO ops.size ops.toList&&qh pm ops.size&&tp P nt tr pre a (fy i j ops)&&tp P nt tr pre b (gx pm (fy j i ops))
def cO(P:Program)(nt:Nat)(tr:List Nat):Code->C->Bool
 | .skip,.skip=>true
 | .region _ ops draw,.ops pre l post=>kC P nt tr ops draw pre l post
 | .region _ ops draw,.alt pre t=>draw&&jL ops.toList&&tp P nt tr pre t ops
 | .seq (.region _ ops draw) (.cond x a b),.dJ pre l post y c d=>kC P nt tr ops draw pre l post&&aP (bY (fR tr draw ops l).toList l) tr x y&&cO P nt tr a c&&cO P nt tr b d
 | .seq (.region _ ops draw) (.seq (.cond x a b) r),.wL pre l post y c d e=>kC P nt tr ops draw pre l post&&aP (bY (fR tr draw ops l).toList l) tr x y&&cO P nt tr a c&&cO P nt tr b d&&cO P nt tr r e
 | .seq a b,.seq c d=>cO P nt tr a c&&cO P nt tr b d
 | .cond x a b,.cond y c d=>aP [] tr x y&&cO P nt tr a c&&cO P nt tr b d
 | .block i a,.block j c=>i == j&&cO P nt tr a c
 | .loop a,.loop c=>cO P nt tr a c
 | .exit i,.exit j=>i == j
 | .ret,.ret=>true
 | _,_=>false
def ma(nt:Nat)(tr:List Nat):Bool:=wx tr&&tr.all (fun t=>decide (t<nt))&&decide (tr.length<500)
end Go.D3
namespace Go.D3
open Go
theorem FX:∀{l r:List UInt8},dy l r=true->l=r
 | [],[],_=>rfl
 | [],_::_,h=>by simp[dy] at h
 | _::_,[],h=>by simp[dy] at h
 | a::l,b::r,h=>by
  simp[dy] at h;rw[h.1,FX h.2]
theorem yD(s:ByteArray):s=⟨s.data.toList.toArray⟩:=by cases s;simp
section
variable{P:Program}{o:Oper}{w:World}{A:Nat->Prop}{ct:Nat->D}{vl:Nat->Value}{a:Act}{v:Value}
theorem eY{k:IntKind}{n:Int}(h:Pl w A (ai w ct vl) v (.int k n)):v=.int k n/\k.has n:=by
 cases h with
 | rd h=>cases h with | int h=>exact⟨rfl,h⟩
 | ref h=>exact h.elim
theorem pl_bool{b:Bool}(h:Pl w A (ai w ct vl) v (.bool b)):v=.bool b:=by
 cases h with
 | rd h=>cases h;rfl
 | ref h=>exact h.elim
theorem iy{l:List UInt8}(h:Pl w A (ai w ct vl) v (.str l)):v=.string ⟨l.toArray⟩/\l.length<=maxLen:=by
 cases h with
 | rd h=>cases h with | str h=>exact⟨rfl,h⟩
 | ref h=>exact h.elim
theorem oD{l:List D}(h:Pl w A (ai w ct vl) v (.agg l)):∃cs:Array Value,v=.agg cs/\cs.size=l.length/\∀j x,l[j]?=some x->Pl w A (ai w ct vl) (cs.getD j undef) x:=by
 cases h with
 | rd h=>cases h with | agg S I=>exact⟨_,rfl,S,fun j x V=>.rd (I j x V)⟩
 | ref h=>exact h.elim
 | agg S I=>exact⟨_,rfl,S,I⟩
theorem WJ{l:List D}(h:Pl w A (ai w ct vl) v (.av l)):∃cs:Array Value,v=.tuple cs/\cs.size=l.length/\∀j x,l[j]?=some x->Pl w A (ai w ct vl) (cs.getD j undef) x:=by
 cases h with
 | rd h=>cases h with | av S I=>exact⟨_,rfl,S,fun j x V=>.rd (I j x V)⟩
 | ref h=>exact h.elim
 | av S I=>exact⟨_,rfl,S,I⟩
theorem rZ{l:List D}(h:Pl w A (ai w ct vl) v (.ptr l)):∃b off,v=.pointer (some ⟨b,off,none⟩)/\A b/\∀j x,l[j]?=some x->∃u,w.cell? ⟨b,off+j,none⟩=some u/\Rd w A u x:=by
 cases h with
 | rd h=>cases h with | ptr hA vs S V=>exact⟨_,_,rfl,hA,fun j x I=>⟨vs j,S j x I,V j x I⟩⟩
 | ref h=>exact h.elim
theorem b8{d:D}(h:Pl w A (ai w ct vl) v d)(V:∀k p,d≠.sub k p)(S:∀k p,d≠.aG k p)(I:∀f c,d≠.fn f c)(hg:∀l,d≠.agg l)(W:∀l,d≠.av l)(hp:∀k p n,d≠.pre k p n:=by simp):Rd w A v d:=by
 cases h with
 | rd h=>exact h
 | @ref v d h=>cases d<;>first | exact h.elim | exact absurd rfl (V _ _) | exact absurd rfl (S _ _) | exact absurd rfl (I _ _) | exact absurd rfl (hp _ _ _)
 | agg=>exact absurd rfl (hg _)
 | av=>exact absurd rfl (W _)
 | fn=>exact absurd rfl (I _ _)
theorem qi{z:D}{L:List D}(h:Pl w A (ai w ct vl) v (.slice z L)):Rd w A v (.slice z L) :=
 b8 h (by simp) (by simp) (by simp) (by simp) (by simp)
theorem eD{k:Nat}{p:Path}(h:Pl w A (ai w ct vl) v (.sub k p)):ai w ct vl v (.sub k p):=by
 cases h with
 | rd h=>cases h
 | ref h=>exact h
theorem gy{k:Nat}{p:Path}(h:Pl w A (ai w ct vl) v (.aG k p)):sJ w ct vl v k p:=by
 cases h with
 | rd h=>cases h
 | ref h=>exact h
theorem oE{f:FuncId}{caps:List D}(h:Pl w A (ai w ct vl) v (.fn f caps)):∃cs:Array Value,v=.func (.func f) #[] cs/\cs.size=caps.length/\∀j x,caps[j]?=some x->Pl w A (ai w ct vl) (cs.getD j undef) x:=by
 cases h with
 | rd h=>cases h with | fn S I=>exact⟨_,rfl,S,fun j x V=>.rd (I j x V)⟩
 | ref h=>exact h.elim
 | fn S I=>exact⟨_,rfl,S,I⟩
theorem I4{z:D}{L:List D}(h:Rd w A v (.slice z L)):∃p cap,v=.slice p L.length cap/\L.length<=cap/\cap<=maxLen /\
  (L≠[]->∃b off,p=some ⟨b,off,none⟩/\A b/\0<z.cells.length/\(∀x∈L,x.cells.length=z.cells.length)/\∀j x,cellAt L z.cells.length j=some x->∃u,w.cell? ⟨b,off+j,none⟩=some u/\Rd w A u x):=by
 cases h with
 | nil=>exact⟨none,0,rfl,Nat.le_refl _,Nat.zero_le _,fun h=>absurd rfl h⟩
 | empty hm=>exact⟨_,_,rfl,Nat.zero_le _,hm,fun h=>absurd rfl h⟩
 | slice hA Y hm hz V S vs I Z =>
  subst V;exact⟨_,_,rfl,Y,hm,fun _=>⟨_,_,rfl,hA,hz,S,fun j x W=>⟨vs j,I j x W,Z j x W⟩⟩⟩
theorem Ax{z:D}{L:List D}{F:Nat->Prop}(h:aq w A v (.slice z L) F):∃p cap,v=.slice p L.length cap/\L.length<=cap/\cap<=maxLen/\(L≠[]->∃b off,p=some ⟨b,off,none⟩):=by
 cases h with
 | nil=>exact⟨none,0,rfl,Nat.le_refl _,Nat.zero_le _,fun h=>absurd rfl h⟩
 | slice Fs hb I V hm hz Z Y hr hF W S=>exact⟨_,_,rfl,V,hm,fun _=>⟨_,_,rfl⟩⟩
theorem nF{w:World}{A:Nat->Prop}{x:D}(h:Pl w A (ai w ct vl) v x){l:List D}(I:x.cellsOf=some l):v.cells.size=l.length/\∀j c,l[j]?=some c->Pl w A (ai w ct vl) (v.cells.getD j undef) c:=by
 have one:(v.cells=#[v])->l=[x]->v.cells.size=l.length/\∀j c,l[j]?=some c->Pl w A (ai w ct vl) (v.cells.getD j undef) c:=by
  rintro h1 rfl;refine⟨by simp[h1],fun j c V=>?_⟩;cases j with
  | zero=>simp at V;subst V;simpa[h1] using h
  | succ j=>simp at V
 have W:∀{v:Value}{d:D},Rd w A v d->(∀l,d≠.agg l)->d≠.dead->(∀y,d≠.o y)->(∀y,d≠.vw y)->v.cells=#[v]:=by
  intro v d h h1 S Y Z;cases h<;>first | rfl | exact absurd rfl (h1 _) | exact absurd rfl S | exact absurd rfl (Y _) | exact absurd rfl (Z _)
 cases x<;>simp only[D.cellsOf,Option.some.injEq,reduceCtorEq] at I
 case agg l' =>
  subst I;obtain⟨cs,rfl,h1,S⟩:=oD h;exact⟨h1,S⟩
 case pre k p n =>
  refine one ?_ I.symm;cases h with
  | rd h=>cases h
  | ref h=>obtain⟨q,m,c,_,_,rfl⟩:=h;rfl
 all_goals
  refine one ?_ I.symm
 case sub k p=>obtain⟨_,_,⟨q,n,c,rfl⟩ | ⟨r,rfl⟩ | ⟨r,rfl⟩⟩:=eD h<;>rfl
 case aG k p=>obtain⟨_,_,_,rfl⟩:=gy h;rfl
 case fn f caps=>obtain⟨cs,rfl,_⟩:=oE h;rfl
 all_goals exact W (b8 h (by simp) (by simp) (by simp) (by simp) (by simp)) (by simp) (by simp) (by simp) (by simp)
end
end Go.D3
