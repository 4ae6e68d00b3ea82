/- PIECES OF PURE OPERATIONS: cells,struct literals,comparisons of structs,slices of views,function values. Generic. -/
import Derived.Test.YtpjbamibcngihaaGreatDoorHA
import Derived.Attr
import Derived.Laws.Entries
import Derived.Laws.Tables
import Derived.Laws.MakeOwn
import Derived.Laws.Cells
import Derived.Laws.StructEq
import Derived.Orders
namespace Go.D3
open Go
structure St where
 env:List D
 n:Nat
 tmp:List D
def nth:List D->Nat->D
 | [],_=>.dead
 | a::_,0=>a
 | _::l,i+1=>nth l i
def ei:List D->Nat->D->List D
 | [],_,_=>[]
 | _::l,0,x=>x::l
 | a::l,i+1,x=>a::ei l i x
def St.cont(st:St)(k:Nat):D:=if k<1000 then nth st.env k else if k<1000+st.n then nth st.tmp (999+st.n-k) else .dead
def St.put(st:St)(k:Nat)(c:D):St:=if k<1000 then⟨ei st.env k c,st.n,st.tmp⟩ else if k<1000+st.n then⟨st.env,st.n,ei st.tmp (999+st.n-k) c⟩ else st
def St.push(st:St)(c:D):St:=⟨st.env,st.n+1,c::st.tmp⟩
def St.kill(st:St)(q:D->Bool):St:=⟨dZ q st.env,st.n,dZ q st.tmp⟩
def St.rd(st:St):X->D
 | .t i=>cf (1000+i) (st.cont (1000+i))
 | .v j=>cf j (st.cont j)
 | .i n=>.int .i64 n
 | .k d=>d
 | .g n=>(gl n).getD .dead
def aW(k:Nat):D->Bool
 | .sub j _=>j == k
 | .av j _=>j == k
 | _=>false
def eY:D->Bool
 | .sub j _=>decide (1000<=j)
 | .av j _=>decide (1000<=j)
 | _=>false
def D.hole(c:D)(p:Path):D:=c.setAt p (cO c p)
def D.o?:D->Option D
 | .o x=>some x
 | _=>none
def D.cF:D->Bool
 | .int _ _ | .bool _ | .str _=>true
 | _=>false
def jl:List D->Bool
 | []=>true
 | x::r=>x.cF&&jl r
def fS(f:D->Option D):List D->Option (List D)
 | []=>some []
 | x::r=>(f x).bind fun y=>(fS f r).bind fun l=>some (y::l)
def D.fu:D->Option D
 | .int k n=>some (.int k n)
 | .bool b=>some (.bool b)
 | .str s=>some (.str s)
 | .bp=>some .bp
 | .slice z l=>some (.vw (.slice z l))
 | .ptr l=>some (.vw (.ptr l))
 | .aB z=>some (.slice z [])
 | _=>none
def D.p8:D->Option D
 | .agg l=>(fS D.fu l).bind fun l'=>some (.agg l')
 | x=>x.fu
def D.iQ:D->Option D
 | .o x=>some x
 | .row z l=>(fS D.p8 l).bind fun l'=>some (.slice z l')
 | _=>none
def cK{α:Type}(x:Option α)(K:α->Prop):Prop :=
 match x with
 | some a=>K a
 | none=>False
def eo(k:Nat)(p:Path)(K:D->St->Prop)(st:St):Prop :=
 match p with
 | []=>cK (st.cont k).iQ fun x=>K x ((st.kill (aW k)).put k .dead)
 | s::p=>K ((st.cont k).bj (s::p)) ((st.kill (bH k (s::p))).put k (((st.kill (bH k (s::p))).cont k).hole (s::p)))
def lV(k:Nat)(p:Path):D->Prop
 | .sub j q=>j≠k\/apart p q=true
 | .av j q=>j≠k\/apart p q=true
 | _=>True
def mf(r:List D):D->Prop
 | .sub k p=>bN (lV k p) r
 | _=>True
mutual
def aD:D->(D->St->Prop)->St->Prop
 | .int k n,K,st=>K (.int k n) st
 | .bool b,K,st=>K (.bool b) st
 | .str s,K,st=>K (.str s) st
 | .bp,K,st=>K .bp st
 | .fn f [],K,st=>K (.fn f []) st
 | .fn f (c::r),K,st=>(D.fn f (c::r)).refs (fun _=>False)/\K (.vw (.fn f (c::r))) st
 | .sub k p,K,st=>eo k p K st
 | .agg l,K,st=>cL l (fun l' st=>K (.agg l') st) st
 | .slice z l,K,st=>K (.vw (.slice z l)) st
 | .ptr l,K,st=>K (.vw (.ptr l)) st
 | .aB z,K,st=>K (.slice z []) st
 | .bK,K,st=>K .bK st
 | .bd,K,st=>K .bd st
 | .bw t x,K,st=>K (.bw t x) st
 | _,_,_=>False
def cL:List D->(List D->St->Prop)->St->Prop
 | [],K,st=>K [] st
 | x::r,K,st=>x.refs (mf r)/\aD x (fun x' st=>cL r (fun r' st=>K (x'::r') st) st) st
end
theorem O7{k:Nat}{p:Path}{K K':D->St->Prop}(hK:∀x st,K x st->K' x st){st:St}(h:eo k p K st):eo k p K' st:=by
 cases p with
 | nil =>
  simp only[eo] at h|-
  cases hc:(st.cont k).iQ with
  | none=>rw[hc] at h;exact h.elim
  | some x=>rw[hc] at h;exact hK _ _ h
 | cons s p=>simp only[eo] at h|-;exact hK _ _ h
mutual
theorem RH:∀(d:D){K K':D->St->Prop}(_:∀x st,K x st->K' x st){st:St},aD d K st->aD d K' st
 | .int _ _,K,K',hK,st,h=>by simp only[aD] at h|-;exact hK _ _ h
 | .bool _,K,K',hK,st,h=>by simp only[aD] at h|-;exact hK _ _ h
 | .str _,K,K',hK,st,h=>by simp only[aD] at h|-;exact hK _ _ h
 | .bp,K,K',hK,st,h=>by simp only[aD] at h|-;exact hK _ _ h
 | .fn _ [],K,K',hK,st,h=>by simp only[aD] at h|-;exact hK _ _ h
 | .slice _ _,K,K',hK,st,h=>by simp only[aD] at h|-;exact hK _ _ h
 | .ptr _,K,K',hK,st,h=>by simp only[aD] at h|-;exact hK _ _ h
 | .aB _,K,K',hK,st,h=>by simp only[aD] at h|-;exact hK _ _ h
 | .bK,K,K',hK,st,h=>by simp only[aD] at h|-;exact hK _ _ h
 | .bd,K,K',hK,st,h=>by simp only[aD] at h|-;exact hK _ _ h
 | .bw _ _,K,K',hK,st,h=>by simp only[aD] at h|-;exact hK _ _ h
 | .mp _ _,K,K',hK,st,h=>by simp only[aD] at h
 | .bQ _ _,K,K',hK,st,h=>by simp only[aD] at h
 | .er _,K,K',hK,st,h=>by simp only[aD] at h
 | .pre _ _ _,K,K',hK,st,h=>by simp only[aD] at h
 | .sub k p,K,K',hK,st,h=>by simp only[aD] at h|-;exact O7 hK h
 | .agg l,K,K',hK,st,h=>by simp only[aD] at h|-;exact zB l (fun _ _ h=>hK _ _ h) h
 | .fn _ (_::_),K,K',hK,st,h=>by simp only[aD] at h|-;exact⟨h.1,hK _ _ h.2⟩
 | .au _,K,K',hK,st,h=>by simp only[aD] at h
 | .vw _,K,K',hK,st,h=>by simp only[aD] at h
 | .o _,K,K',hK,st,h=>by simp only[aD] at h
 | .box _,K,K',hK,st,h=>by simp only[aD] at h
 | .row _ _,K,K',hK,st,h=>by simp only[aD] at h
 | .av _ _,K,K',hK,st,h=>by simp only[aD] at h
 | .when _ _,K,K',hK,st,h=>by simp only[aD] at h
 | .dead,K,K',hK,st,h=>by simp only[aD] at h
theorem zB:∀(l:List D){K K':List D->St->Prop}(_:∀x st,K x st->K' x st){st:St},cL l K st->cL l K' st
 | [],K,K',hK,st,h=>by simp only[cL] at h|-;exact hK _ _ h
 | x::r,K,K',hK,st,h=>by simp only[cL] at h|-;exact⟨h.1,RH x (fun _ _ h=>zB r (fun _ _ h=>hK _ _ h) h) h.2⟩
end
def aV:D->D
 | .vw (.slice z l)=>.slice z l
 | .vw (.ptr l)=>.ptr l
 | .vw (.agg l)=>.agg l
 | .vw (.fn f l)=>.fn f l
 | .vw (.mp ks vs)=>.mp ks vs
 | .vw (.au l)=>.au l
 | .vw _=>.dead
 | .int k n=>.int k n
 | .bool b=>.bool b
 | .str s=>.str s
 | .bp=>.bp
 | .fn f l=>.fn f l
 | .dead=>.dead
 | .bK=>.bK
 | .bd=>.bd
 | .bw t x=>.bw t x
 | d=>.o d
def pE(z:D):List D->Bool
 | []=>true
 | x::r=>decide (x.cells.length=z.cells.length)&&pE z r
def bf(ob:Nat->D):Nat->D->Option D
 | 0,_=>none
 | n+1,d=>match d with
  | .sub k p=>(lk ob k).bind fun c=>match c with
   | .row z l=>(fS (bf ob n) l).bind fun l'=>if pE z l'=true then some (.slice z l') else none
   | c=>if(c.bj p).isAgg=true then none else some (c.bj p)
  | .pre k p m=>(lk ob k).bind fun c=>match c with
   | .row _ _=>none
   | c=>match c.bj p with
    | .slice z l=>some (.slice z (l.take m))
    | _=>none
  | .av k p=>(lk ob k).bind fun c=>match c,p with
   | .box l,[(_,off)]=>(fS (bf ob n) l).bind fun l'=>some (.ptr (l'.drop off))
   | .o (.ptr l),[(_,off)]=>some (.ptr (l.drop off))
   | _,_=>none
  | .agg l=>(fS (bf ob n) l).bind fun l'=>some (.agg l')
  | .o x=>some x
  | .aB z=>some (.slice z [])
  | .au _=>none
  | .dead=>none
  | .when _ _=>none
  | .box _=>none
  | .row _ _=>none
  | .fn f l=>(fS (bf ob n) l).bind fun l'=>some (.fn f l')
  | x=>some x
def gM(ob:Nat->D)(rd:X->D):List X->Option (List D)
 | []=>some []
 | x::r=>(bf ob 4 (rd x).core).bind fun y=>(gM ob rd r).bind fun l=>some (y::l)
def dN(rd:X->D):List X->Bool
 | []=>true
 | x::r=>(rd x).gate&&dN rd r
mutual
def D.bl:D->Bool
 | .vw _=>false
 | .bw _ _=>false
 | .slice _ l=>dE l
 | .agg l=>dE l
 | .au l=>dE l
 | .ptr l=>dE l
 | _=>true
def dE:List D->Bool
 | []=>true
 | x::r=>x.bl&&dE r
end
def eL:D->Prop:=fun _=>False
def ja(rd:X->D):List X->Prop
 | []=>True
 | x::r=>(rd x).core.refs eL/\ja rd r
def kB(g:Option Bool)(p:Prop):Prop :=
 match g with
 | none=>p
 | some b=>b=true->p
def ox(g:Option Bool)(v:D):D :=
 match g with
 | none=>v
 | some b=>.when b v
def D.c6:D->Bool
 | .o _ | .box _ | .row _ _ | .when _ _=>false
 | _=>true
def gj(r:Option PR)(g:Option Bool)(K:St->Prop)(st:St):Prop :=
 match r with
 | none=>g=some false/\K (st.push (.when false (.bool false)))
 | some (side,res)=>kB g side/\res.c6=true/\K (st.push (ox g res))
def eV(r:Option PR)(g:Option Bool)(K:St->Prop)(st:St):Prop :=
 match g,r with
 | none,some (side,c)=>side/\K (st.push c)
 | _,_=>False
def D.fb:D->Option D
 | .int k n=>some (.int k n)
 | .bool b=>some (.bool b)
 | .str s=>some (.str s)
 | .bp=>some .bp
 | .slice z l=>some (.slice z l)
 | .ptr l=>some (.ptr l)
 | .aB z=>some (.slice z [])
 | .fn f []=>some (.fn f [])
 | .mp ks vs=>some (.mp ks vs)
 | .bK=>some .bK
 | .bd=>some .bd
 | .bw t x=>some (.bw t x)
 | _=>none
def om:List D->Bool
 | []=>true
 | x::r=>x.pc&&om r
def Bn(n:Nat)(x:D):Option PR:=x.core.cellsOf.bind fun l=>some ((x.gate=true/\0<n/\om l=true)/\l.length=n,.box l)
def AP(n:Nat)(x:D):Option PR:=x.core.cellsOf.bind fun l=>(fS D.fb l).bind fun l'=>some (x.gate=true/\l.length=n,.ptr l')
def A6(z:D)(bytes:Nat)(l c:D):Option PR :=
 l.core.int?.bind fun a=>c.core.int?.bind fun b=>some ((l.gate=true/\c.gate=true)/\0<=a/\a<=b/\bytes*b<=281474976710656,.o (.slice z (List.replicate a.toNat z)))
def ml(rd:X->D)(sz:Nat):List D->List (Nat×X)->Option (Bool×List D)
 | es,[]=>some (true,es)
 | es,(i,x)::r=>(rd x).core.cellsOf.bind fun l =>
  if l.length=sz/\i<es.length/\om l=true then(ml rd sz (ei es i (rd x).core) r).bind fun p=>some ((rd x).gate&&p.1,p.2) else none
def four:List D->Bool
 | []=>false
 | [_]=>false
 | [_,_]=>false
 | [_,_,_]=>false
 | _::_::_::_::_=>true
def Ba:Bool->D->List D->D
 | true,z,l=>.o (.slice z l)
 | false,z,l=>.row z l
def rj(rd:X->D)(z:D)(n:Nat)(parts:List (Nat×X)):Option PR :=
 match n,parts with
 | 0,[]=>some (True,.o (.slice z []))
 | 0,_=>none
 | n+1,parts=>(ml rd z.cells.length (List.replicate (n+1) z) parts).bind fun p=>some (p.1=true,Ba (four p.2&&jl p.2) z p.2)
def Bs(x:D):Option PR:=x.core.mA.bind fun s=>some (x.gate=true,.o (.bQ s 0))
def A8(x:D):Option PR:=x.core.mA.bind fun s=>some (x.gate=true/\s.length<=140737488355328,.o (re s))
def bW(k:Kp)(rd:X->D):Option PR :=
 match k with
 | .fY x=>A8 (rd x)
 | .box n x=>Bn n (rd x)
 | .fg n x=>AP n (rd x)
 | .cn zs=>some (zs≠[],.box zs)
 | .ak z bytes l c=>A6 z bytes (rd l) (rd c)
 | .aQ z n parts=>rj rd z n parts
 | .fV=>some (True,.o (.mp [] []))
 | .eF x=>Bs (rd x)
 | _=>none
def hU(P:Program)(f:FuncId):Bool:=match P.funcs[f]? with
 | some fn=>fn.body.isSome&&!(fn.name == "runtime.NumGoroutine")
 | none=>false
def bR(P:Program)(f:FuncId)(as gs:List D)(Q:D->List D->Prop):Prop :=
 hU P f=true/\∀(w:World)(A:Nat->Prop)(vs:Array Value)(gv:Nat->Value)(Fs:Nat->Nat->Prop),e8 w A->(∀b,A b->b<w.heap.size)->vs.size=as.length ->
  (∀(j:Nat)(a:D),as[j]?=some a->Pl w A (aj w (nth gs) gv) (vs.getD j undef) a) ->
  (∀k,aJ w A (aj w (nth gs) gv) (gv k) (Fs k) (nth gs k))->(∀k,(nth gs k).isObj=false->∀b,¬Fs k b) ->
  (∀i j b,i≠j->Fs i b->¬Fs j b)->(∀k b,Fs k b->b<w.heap.size/\¬A b) ->
  Calls P f vs w fun e w'=>∃(rc:D)(gs':List D)(v:Value)(F:Nat->Prop)(gv':Nat->Value)(Fs':Nat->Nat->Prop),Q rc gs'/\e=.returned v/\w.heap.size<=w'.heap.size /\
   aJ w' (fun b=>A b\/(w.heap.size<=b/\b<w'.heap.size/\¬F b/\∀j,¬Fs' j b)) (aj w' (nth gs') gv') v F rc/\(rc.isObj=false->∀b,¬F b) /\
   (∀k,aJ w' (fun b=>A b\/(w.heap.size<=b/\b<w'.heap.size/\¬F b/\∀j,¬Fs' j b)) (aj w' (nth gs') gv') (gv' k) (Fs' k) (nth gs' k))/\(∀k,(nth gs' k).isObj=false->∀b,¬Fs' k b) /\
   (∀k,nth gs k≠.dead->gv' k=gv k) /\
   (∀b,F b->b<w'.heap.size/\(w.heap.size<=b\/∃j,Fs j b)/\∀j,¬Fs' j b)/\(∀j b,Fs' j b->b<w'.heap.size/\(w.heap.size<=b\/∃j,Fs j b))/\(∀i j b,i≠j->Fs' i b->¬Fs' j b) /\
   (∀b,b<w.heap.size->(∀j,¬Fs j b)->w'.heap[b]?=w.heap[b]?)/\w'.os=w.os/\w'.tape=w.tape/\w'.output=w.output
def gy(P:Program)(f:FuncId)(as gs:List D)(rc:D)(gs':List D):Prop:=bR P f as gs fun r g=>r=rc/\g=gs'
theorem bR.imp{P:Program}{f:FuncId}{as gs:List D}{Q Q':D->List D->Prop}(h:bR P f as gs Q)(hQ:∀r g,Q r g->Q' r g):bR P f as gs Q' :=
 ⟨h.1,fun w A vs gv Fs h0 h1 h2 h3 h4 h5 h6 h7=>(h.2 w A vs gv Fs h0 h1 h2 h3 h4 h5 h6 h7).mono fun _ _ ⟨rc,gs',v,F,gv',Fs',q,r⟩=>⟨rc,gs',v,F,gv',Fs',hQ _ _ q,r⟩⟩
def VX(P:Program)(f:FuncId)(as gs:List D)(rc:D):Prop :=
 hU P f=true/\∀(w:World)(A:Nat->Prop)(vs:Array Value)(gv:Nat->Value)(Fs:Nat->Nat->Prop),e8 w A->(∀b,A b->b<w.heap.size)->vs.size=as.length ->
  (∀(j:Nat)(a:D),as[j]?=some a->Pl w A (aj w (nth gs) gv) (vs.getD j undef) a) ->
  (∀k,aJ w A (aj w (nth gs) gv) (gv k) (Fs k) (nth gs k))->(∀k,(nth gs k).isObj=false->∀b,¬Fs k b) ->
  (∀i j b,i≠j->Fs i b->¬Fs j b)->(∀k b,Fs k b->b<w.heap.size/\¬A b) ->
  Calls P f vs w fun e w'=>∃v:Value,e=.returned v/\w.heap.size<=w'.heap.size/\(∀b,b<w.heap.size->w'.heap[b]?=w.heap[b]?) /\
   Pl w' (fun b=>A b\/(w.heap.size<=b/\b<w'.heap.size)) (aj w (nth gs) gv) v rc/\w'.os=w.os/\w'.tape=w.tape/\w'.output=w.output
mutual
def D.tight:D->Bool
 | .int _ _=>true
 | .bool _=>true
 | .str _=>true
 | .bp=>true
 | .aB _=>true
 | .dead=>true
 | .sub _ _=>true
 | .av _ _=>true
 | .fn _ l=>jV l
 | .agg l=>jV l
 | .au l=>jV l
 | _=>false
def jV:List D->Bool
 | []=>true
 | x::r=>x.tight&&jV r
end
def D.pf:D->Bool
 | .o x=>x.bl
 | c=>c.tight
def oZ:List D->Bool
 | []=>true
 | x::r=>x.pf&&oZ r
def D.iH:D->Bool
 | .box l=>oZ l
 | .row _ l=>jV l
 | c=>c.pf
def jS:List D->Bool
 | []=>true
 | x::r=>x.iH&&jS r
class KH where
 k:St->Prop
def D.JU:D->D
 | .vw d=>d
 | d=>d
def D.BD:D->D
 | .agg l=>.agg (l.map D.JU)
 | d=>d
theorem UE{w:World}{A:Nat->Prop}{v:Value}{d:D}(h:Rd w A v d):Rd w A v d.JU:=by
 cases d<;>first | exact h | (cases h;assumption)
theorem US{w:World}{A:Nat->Prop}{v:Value}{d:D}(h:Rd w A v d):Rd w A v d.BD:=by
 cases d with
 | agg l =>
  cases h with
  | agg hs hr =>
   refine .agg (by rw[List.length_map];exact hs) fun j x hx=>?_
   rw[List.getElem?_map,Option.map_eq_some_iff] at hx;obtain⟨y,hy,rfl⟩:=hx;exact UE (hr j y hy)
 | _=>exact h
def AR(g:Option Bool)(res c:D):Prop :=
 match g with
 | none=>c=aV res\/c=aV (.vw res)
 | some b=>c=.when b res\/c=.when b res.BD
def lU(P:Program)(f:FuncId)(ds:Option (List D))(gt:Bool)(pl:Prop)(g:Option Bool)[K:KH](st:St):Prop :=
 ∃l res c,ds=some l/\kB g (gt=true/\aC P f (l.map .v) res/\(res.bl=true\/pl))/\AR g res c/\K.k (st.push c)
def D.AI(c:D)(p:Path)(y:D):D:=c.setAt p (if br c p=true then .o y else y)
def px(x:D)(r:List D)(y:D)(K:St->Prop)(st:St):Prop :=
 match x with
 | .sub k (s::p)=>y.isAgg=false/\bN (fun d=>bH k (s::p) d=false) r/\K ((st.kill (bH k (s::p))).put k (((st.kill (bH k (s::p))).cont k).AI (s::p) y))
 | _=>K st
def gn:List D->List D->(St->Prop)->St->Prop
 | [],[],K,st=>K st
 | x::r,y::ys,K,st=>px x r y (gn r ys K) st
 | _,_,_,_=>False
def uZ(P:Program)(f:FuncId)(d:D)(ds:Option (List D))(gt:Bool)(pl:Prop)(g:Option Bool)[K:KH](st:St):Prop :=
 g=none/\gt=true/\pl/\∃dl,ds=some dl/\match d with
  | .av k [(0,0)]=>∃l l' res,st.cont k=.box l/\bN eL l/\bN eL l'/\l'.length=l.length/\aC P f (.io (.box l) (.box l')::dl.map .v) res/\K.k (((st.kill (bI k [(0,0)])).put k (.box l')).push (aV res))
  | .sub k []=>∃x y res,st.cont k=.o x/\aC P f (.io (.o x) (.o y)::dl.map .v) res/\K.k (((st.kill (bH k [])).put k (.o y)).push (aV res))
  | .sub k (s::p)=>cL [.sub k (s::p)] (fun l st=>∃x y res,l=[x]/\aC P f (.io (.o x) (.o y)::dl.map .v) res/\gn [.sub k (s::p)] [y] (fun st=>K.k (st.push (aV res))) st) st
  | .agg l=>cL l (fun xs st=>∃ys res,aC P f (.io (.o (.agg xs)) (.o (.agg ys))::dl.map .v) res/\gn l ys (fun st=>K.k (st.push (aV res))) st) st
  | _=>False
def sg(n:Nat)(js:List Nat)(i:Nat):Nat:=(js[i]?).getD (1000+n+i)
def jU(st:St)(σ:Nat->Nat):List Nat->List D->Prop
 | [],[]=>True
 | j::js,g::gs=>st.cont j=g.aw σ/\jU st σ js gs
 | _,_=>False
def kl(st:St)(σ:Nat->Nat)(js:List Nat)(tg:Bool):List D->List D->Prop
 | [],[]=>True
 | d::ds,a::as=>(d=a.aw σ\/(tg=true/\bf (fun k=>if js.contains k=true then .dead else st.cont k) 4 d=some a))/\kl st σ js tg ds as
 | _,_=>False
def vc:D->D->Bool
 | .o _,.o _=>true
 | _,_=>false
def rT:D->D->Bool
 | .box l,.box l'=>l.length == l'.length
 | _,_=>false
def oC(j:Nat)(g h:D):D->Bool
 | .sub k p=>k == j&&!(p.isEmpty&&vc g h)
 | .av k p=>k == j&&!(p.length == 1&&rT g h)
 | _=>false
def qG:List Nat->List D->List D->D->Bool
 | j::js,g::gs,h::hs,d=>oC j g h d || qG js gs hs d
 | _,_,_,_=>false
def fO(σ:Nat->Nat)(st:St):List Nat->List D->St
 | j::js,h::hs=>fO σ (st.put j (h.aw σ)) js hs
 | _,_=>st
def j7:List D->List D->Prop
 | [],[]=>True
 | g::gs,h::hs=>(g=.dead->h=.dead)/\j7 gs hs
 | _,_=>False
def Jb(P:Program)(f:FuncId)(ds:List D)(st:St)(K:D->St->Prop):Prop :=
 ∃(js:List Nat)(tg:Bool)(as gs:List D)(Q:D->List D->Prop),bR P f as gs Q/\(js.Nodup/\js.all (fun j=>decide (j<1000+st.n))=true)/\jU st (sg st.n js) js gs/\kl st (sg st.n js) js tg ds as /\
  ∀rc gs',Q rc gs'->j7 gs gs'/\(tg=true->rc.iH=true/\jS gs'=true)/\K (rc.aw (sg st.n js)) (fO (sg st.n js) (st.kill (qG js gs gs')) js gs')
def oA(P:Program)(f:FuncId)(ds:List D)(gt:Bool)(gd:Bool)[K:KH](st:St):Prop :=
 gt=true/\Jb P f ds st fun c st=>(gd=true->c.c6=true)/\K.k (st.push (if gd=true then .when true c else c))
def lj(P:Program)(x:D)(ds:List D)(gt:Bool)(gd:Bool)[KH](st:St):Prop :=
 match x with
 | .fn f caps=>oA P f (ds++caps) gt gd st
 | _=>False
def jf(P:Program)(x:D)(ds:List D)(gt:Bool)(g:Option Bool)[K:KH](st:St):Prop :=
 match g with
 | none=>lj P x ds gt false st
 | some true=>lj P x ds gt true st
 | some false=>K.k (st.push (.when false (.bool false)))
def eX(rd:X->D):List X->List D
 | []=>[]
 | x::r=>(rd x).core::eX rd r
theorem Vh{P:Program}{f:FuncId}{ds:List D}{K:St->Prop}{st:St}{as gs gs':List D}{rc:D}(js:List Nat)(tg:Bool)(hR:gy P f as gs rc gs')(hn:js.Nodup/\js.all (fun j=>decide (j<1000+st.n))=true)(hl:jU st (sg st.n js) js gs)(ha:kl st (sg st.n js) js tg ds as)
  (hw:j7 gs gs') (ht:tg=true->rc.iH=true/\jS gs'=true) (hK:K ((fO (sg st.n js) (st.kill (qG js gs gs')) js gs').push (rc.aw (sg st.n js)))):@oA P f ds true false ⟨K⟩ st :=
 ⟨rfl,js,tg,as,gs,_,hR,hn,hl,ha,fun _ _ h=>by obtain⟨rfl,rfl⟩:=h;exact⟨hw,ht,fun h=>(by cases h),hK⟩⟩
theorem UC{P:Program}{f:FuncId}{ds:List D}{K:St->Prop}{st:St}{as gs:List D}{Q:D->List D->Prop}(js:List Nat)(tg:Bool)(hR:bR P f as gs Q)(hn:js.Nodup/\js.all (fun j=>decide (j<1000+st.n))=true)(hl:jU st (sg st.n js) js gs)(ha:kl st (sg st.n js) js tg ds as)
  (hK:∀rc gs',Q rc gs'->j7 gs gs'/\(tg=true->rc.iH=true/\jS gs'=true)/\K ((fO (sg st.n js) (st.kill (qG js gs gs')) js gs').push (rc.aw (sg st.n js)))):@oA P f ds true false ⟨K⟩ st :=
 ⟨rfl,js,tg,as,gs,_,hR,hn,hl,ha,fun _ _ h=>⟨(hK _ _ h).1,(hK _ _ h).2.1,fun h=>(by cases h),(hK _ _ h).2.2⟩⟩
def sj(js:List Nat)(i:Nat):Nat:=(js[i]?).getD 0
def kA(n:Nat):D->Prop
 | .sub k _=>k<n
 | .av k _=>k<n
 | _=>True
def ri(ob:Nat->D)(σ:Nat->Nat):List Nat->List D->Prop
 | [],[]=>True
 | j::js,g::gs=>(j<1000/\ob j=g.aw σ)/\ri ob σ js gs
 | _,_=>False
def Bl(σ:Nat->Nat):List D->List D->Prop
 | [],[]=>True
 | d::ds,a::as=>d=a.aw σ/\Bl σ ds as
 | _,_=>False
def ot(P:Program)(f:FuncId)(ob:Nat->D)(ds:List D)(c:D):Prop :=
 ∃(js:List Nat)(as gs:List D)(rc:D),VX P f as gs rc/\js.Nodup/\ri ob (sj js) js gs/\Bl (sj js) ds as/\(bN (kA js.length) as/\bN (kA js.length) gs/\rc.refs (kA js.length))/\rc.c6=true/\c=rc.aw (sj js)
def TF(P:Program)(f:FuncId)(ds:List D)[K:KH](st:St):Prop:=∃c,ot P f st.cont ds c/\K.k (st.push c)
def kc(d:D)(K:D->St->Prop)(st:St):Prop :=
 match d with
 | .av j [(0,0)]=>((st.kill (aW j)).cont j).isObj=true/\(st.cont j).gS=false/\K ((st.kill (aW j)).cont j) ((st.kill (aW j)).put j .dead)
 | _=>False
def mC(j:Nat)(x:D)(K:St->Prop)(st:St):Prop :=
 aD x (fun d st=>K (((st.kill (aW j)).put j (aV d)).push .dead)) st
def D.lW:D->Bool
 | .o _ | .box _ | .row _ _ | .when _ _ | .dead=>false
 | _=>true
def pv(j:Nat)(x:D)(K:St->Prop)(st:St):Prop :=
 x.refs (cu j)/\x.lW=true/\K (((st.kill (aW j)).put j x).push .dead)
def jH:Path->Path
 | []=>[]
 | [_]=>[]
 | s::t::r=>s::jH (t::r)
def my:Path->Bool
 | []=>false
 | [s]=>s.1 == 0&&s.2 == 0
 | _::t::r=>my (t::r)
def D.uQ:D->Bool
 | .ptr _=>true
 | _=>false
def kS(j:Nat)(x:D)(K:St->Prop)(st:St):Prop :=
 match x with
 | .av k q=>my q=true/\eo k (jH q) (fun d st=>d.uQ=true/\K (((st.kill (aW j)).put j (aV d)).push .dead)) st
 | x=>mC j x K st
theorem Gh:∀{q:Path},my q=true->q=jH q++[(0,0)]
 | [],h=>by cases h
 | [(a,b)],h=>by
  simp only[my,Bool.and_eq_true,beq_iff_eq] at h;rw[h.1,h.2];rfl
 | s::t::r,h=>by
  have:=Gh (q:=t::r) h;show s::t::r=s::(jH (t::r)++[(0,0)]);rw[<-this]
def AJ(k:Nat)(p:Path):D->Prop
 | .sub j q=>j≠k\/(q≠[]/\gD q p=false)
 | _=>True
def ea(c:D)(p:Path):Nat->List D->D
 | _,[]=>c
 | j,y::r=>ea (c.setAt (bump p j) (if br c (bump p j)=true then aV y else y)) p (j+1) r
def mD(c:D)(p:Path):Nat->List D->Prop
 | _,[]=>True
 | j,y::r=>c.aX (bump p j)/\y.isAgg=false/\mD c p (j+1) r
def jd(n:Nat)(a x:D)(K:St->Prop)(st:St):Prop :=
 match a with
 | .av k p=>cK x.cellsOf fun l=>l.length=n/\bN (AJ k p) l/\cL l (fun l' st=>mD ((st.kill (bI k p)).cont k) p 0 l' /\
    K (((st.kill (bI k p)).put k (ea ((st.kill (bI k p)).cont k) p 0 l')).push .dead)) st
 | _=>False
def D.gz:D->Bool
 | .int _ _ | .bool _ | .str _ | .bp | .slice _ _ | .ptr _ | .aB _ | .sub _ _ | .av _ _=>true
 | _=>false
def nX:List D->Bool
 | []=>true
 | x::r=>x.gz&&nX r
def D.rv:D->Option (List D)
 | .box l=>some l
 | _=>none
def lP(n:Nat)(a x:D)(K:St->Prop)(st:St):Prop :=
 match a with
 | .av k p=>p=[(0,0)]/\cK (st.cont k).rv fun l0=>l0.length=n/\cK x.cellsOf fun l=>l.length=n/\nX l=true/\bN (fun d=>bI k [(0,0)] d=false) l /\
   K (((st.kill (bI k [(0,0)])).put k (.box l)).push .dead)
 | _=>False
def D.il:D->Option (List D)
 | .slice _ l=>some l
 | .aB _=>some []
 | _=>none
def mg(st:St)(x:D):Option (List D) :=
 match x with
 | .sub k p=>(lk st.cont k).bind fun c=>(c.bj p).il
 | x=>x.il
def D.dQ(y:D)(M:List D):D :=
 match y with
 | .slice z L=>.slice z (L++M)
 | y=>y
def D.row?:D->Option (List D)
 | .row _ l=>some l
 | _=>none
def isRow(st:St)(x:D):Option (List D) :=
 match x with
 | .sub k []=>(st.cont k).row?
 | _=>none
def gN(s:D)(K:D->St->Prop)(st:St):Prop :=
 match s with
 | .sub k p=>eo k p K st
 | .aB z=>K (.slice z []) st
 | _=>False
def uq(st:St)(x:D):Option (List D ⊕ List D) :=
 match isRow st x with
 | some l=>some (.inl l)
 | none=>(mg st x).bind fun M=>some (.inr M)
def rH(sz:Nat):List D->Prop
 | []=>True
 | e::r=>e.cells.length=sz/\rH sz r
def D.pG:D->Bool
 | .slice _ _=>true
 | _=>false
def D.gw:D->Bool
 | .int _ _ | .bool _ | .str _ | .slice _ _ | .bp | .ptr _ | .mp _ _ | .bK | .bw _ _ | .bd=>true
 | _=>false
def nW:List D->Bool
 | []=>true
 | x::r=>x.gw&&nW r
def D.vp(sz:Nat)(e:D):Bool:=decide (e.cells.length=sz)&&nW e.cells
def D.pV:D->Bool
 | .slice z _=>z.pG || z.isAgg
 | _=>false
def D.BH:D->Bool
 | .o x=>x.pV
 | _=>false
def nU(st:St)(x:D):Option (Nat×Path) :=
 match x with
 | .sub k []=>if(st.cont k).BH=true then some (k,[]) else none
 | .sub k (q::p)=>if((st.cont k).bj (q::p)).pV=true then some (k,q::p) else none
 | _=>none
def nZ(sz bytes:Nat)(s x:D)(K:St->Prop)(st:St):Prop :=
 match nU st x with
 | some k=>x.refs (mf [s])/\eo k.1 k.2 (fun y st=>y.gA=sz/\cK y.il fun M=>(∀e∈M,e.vp sz=true) /\
   gN s (fun y st=>y.gA=sz/\cK y.b7 fun m=>(m+M.length)*bytes<=140737488355328/\K (st.push (.o (y.dQ M)))) st) st
 | none=>cK (uq st x) fun src=>match src with
 | .inl l=>rH sz l/\bN (mf [s]) l/\cL l (fun M st=>gN s (fun y st=>y.gA=sz/\cK y.b7 fun m=>(m+M.length)*bytes<=140737488355328/\K (st.push (.o (y.dQ M)))) st) st
 | .inr M=>(∀e∈M,e.cF=true)/\sz=1/\x.refs (mf [s])/\gN s (fun y st=>y.gA=sz/\cK y.b7 fun m=>(m+M.length)*bytes<=140737488355328/\K (st.push (.o (y.dQ M)))) st
def fP:List D->List D->(List D->St->Prop)->St->Prop
 | done,[],K,st=>K done st
 | done,.sub k p::r,K,st=>bN (lV k p) (done++r)/\eo k p (fun x st=>fP (done++[aV x]) r K st) st
 | done,x::r,K,st=>x.pc=true/\fP (done++[x]) r K st
def o9(n:Nat)(x:D)(K:St->Prop)(st:St):Prop :=
 match x.cellsOf with
 | none=>False
 | some l=>(l.length=n/\0<n)/\fP [] l (fun l' st=>K (st.push (.box l'))) st
def pg(z x:D)(K:St->Prop)(st:St):Prop :=
 match x.cellsOf with
 | none=>False
 | some l=>l.length=z.cells.length/\cL l (fun l' st=>K (st.push (.o (.slice z [.agg l'])))) st
def rq(d s:D)[K:KH](st:St):Prop :=
 match d with
 | .sub k (q::p)=>∃M,mg st s=some M/\(∀e∈M,e.cF=true)/\cL [.sub k (q::p)] (fun l st=>∃z L,l=[.slice z L]/\(z.cells.length=1/\∀e∈L,e.cF=true) /\
   gn [.sub k (q::p)] [.slice z (M.take L.length++L.drop M.length)] (fun st=>K.k (st.push (.int .i64 (min M.length L.length:Nat)))) st) st
 | _=>False
def nV(kk:Nat)(m k v:D)[K:KH](st:St):Prop :=
 k.jE kk=true/\v.cF=true/\match m with
 | .sub j []=>cK ((st.cont j).o?.bind D.jG) fun e=>cK (ff k e.1) fun r=>e.1.length<maxLen/\K.k ((st.put j (.o (.mp (cH k v e.1 e.2 r).1 (cH k v e.1 e.2 r).2))).push .dead)
 | .sub j (s::p)=>cL [.sub j (s::p)] (fun l st=>cK ((l.head?).bind D.jG) fun e=>cK (ff k e.1) fun r=>e.1.length<maxLen /\
   gn [.sub j (s::p)] [.mp (cH k v e.1 e.2 r).1 (cH k v e.1 e.2 r).2] (fun st=>K.k (st.push .dead)) st) st
 | _=>False
def cA(s:List UInt8)(p:Nat):Nat×Nat:=Utf8.decode ⟨s.toArray⟩ p
def D.rF:D->Option (List UInt8×Nat)
 | .o (.bQ s p)=>some (s,p)
 | _=>none
def nT(j:Nat)[K:KH](st:St):Prop :=
 cK (st.cont j).rF fun e=>(e.2<e.1.length->K.k ((st.put j (.o (.bQ e.1 (e.2+(cA e.1 e.2).2)))).push (.au [.bool true,.int .i64 e.2,.int .i32 (cA e.1 e.2).1]))) /\
  (e.1.length<=e.2->K.k (st.push (.au [.bool false])))
def qP(kb:Nat):Nat->List D->Prop
 | _,[]=>True
 | j,d::r=>d.refs (cu kb)/\(cf j d).core.refs (cu kb)/\qP kb (j+1) r
def AG(sz bytes b s:Nat)(K:St->Prop)(st:St):Prop :=
 sz=1/\cK (st.cont (1000+s)).row? fun l=>jl l=true/\cK (st.cont (1000+b)).o? fun y=>y.gA=1/\cK y.b7 fun m=>(m+l.length)*bytes<=140737488355328 /\
  qP (1000+b) 0 st.env/\bN (cu (1000+b)) st.tmp/\K ((st.put (1000+b) .dead).push (.o (y.dQ l)))
def bh(P:Program)(k:Kp)(g:Option Bool)(K:St->Prop)(st:St):Prop :=
 match k with
 | .bP j x=>g=none/\(st.rd x).gate=true/\mC j (st.rd x).core K st
 | .jA j x=>g=none/\(st.rd x).gate=true/\pv j (st.rd x).core K st
 | .call f xs=>@lU P f (gM st.cont st.rd xs) (dN st.rd xs) (ja st.rd xs) g ⟨K⟩ st
 | .gm f xs=>g=none/\dN st.rd xs=true/\@TF P f (eX st.rd xs) ⟨K⟩ st
 | .st a x=>g=none/\((st.rd a).gate&&(st.rd x).gate)=true/\jd 1 (st.rd a).core (st.rd x).core K st
 | .bB n a x=>g=none/\((st.rd a).gate&&(st.rd x).gate)=true/\jd n (st.rd a).core (st.rd x).core K st
 | .iq n a x=>g=none/\((st.rd a).gate&&(st.rd x).gate)=true/\lP n (st.rd a).core (st.rd x).core K st
 | .app sz bytes s x=>g=none/\((st.rd s).gate&&(st.rd x).gate)=true/\nZ sz bytes (st.rd s).core (st.rd x).core K st
 | .hY f (x::r)=>@uZ P f (st.rd x).core (gM st.cont st.rd r) (dN st.rd (x::r)) (ja st.rd r) g ⟨K⟩ st
 | .hY _ []=>False
 | .dyn x xs=>@jf P (st.rd x).core (eX st.rd xs) (dN st.rd (x::xs)) g ⟨K⟩ st
 | .ll n x=>g=none/\(st.rd x).gate=true/\o9 n (st.rd x).core K st
 | .bo x=>g=none/\(st.rd x).gate=true/\kc (st.rd x).core (fun c st=>K (st.push c)) st
 | .ew sz bytes b s=>g=none/\AG sz bytes b s K st
 | .kD x y=>g=none/\((st.rd x).gate&&(st.rd y).gate)=true/\@rq (st.rd x).core (st.rd y).core ⟨K⟩ st
 | .lC kk m k v=>g=none/\((st.rd m).gate&&(st.rd k).gate&&(st.rd v).gate)=true/\@nV kk (st.rd m).core (st.rd k).core (st.rd v).core ⟨K⟩ st
 | .lz j=>g=none/\@nT j ⟨K⟩ st
 | .eF x=>eV (bW (.eF x) st.rd) g K st
 | .fY x=>eV (bW (.fY x) st.rd) g K st
 | .box n x=>eV (bW (.box n x) st.rd) g K st
 | .fg n x=>eV (bW (.fg n x) st.rd) g K st
 | .cn zs=>eV (bW (.cn zs) st.rd) g K st
 | .ak z b l c=>eV (bW (.ak z b l c) st.rd) g K st
 | .aQ z n ps=>eV (bW (.aQ z n ps) st.rd) g K st
 | .fV=>eV (bW .fV st.rd) g K st
 | .jC z x=>g=none/\(st.rd x).gate=true/\pg z (st.rd x).core K st
 | .jD j x=>g=none/\(st.rd x).gate=true/\kS j (st.rd x).core K st
 | k=>gj (bF k st.rd st.cont) g K st
def D.bool?:D->Option Bool
 | .bool b=>some b
 | _=>none
def gd(c:D)(want:Bool):Option Bool:=c.core.bool?.bind fun b=>some (c.gate&&(if want then b else !b))
def iW(v:Option Bool)(K:Bool->Prop):Prop :=
 match v with
 | some b=>K b
 | none=>False
def bZ(P:Program)(K:St->Prop):List bc->St->Prop
 | [],st=>K st
 | ⟨none,k⟩::r,st=>bh P k none (bZ P K r) st
 | ⟨some (j,want),k⟩::r,st=>iW (gd (st.rd (.t j)) want) fun b=>bh P k (some b) (bZ P K r) st
structure Ex where
 ex:Nat->List D->Prop
 ret:List D->Prop
def iF(v:D)(A B:Prop):Prop :=
 match v with
 | .bool b=>(b=true->A)/\(b=false->B)
 | _=>False
def cZ:List Nat->St->St
 | [],st=>st
 | j::r,st=>cZ r ((st.kill (aW j)).put j .dead)
def jt:List (Nat×Nat)->St->St
 | [],st=>st
 | (j,i)::r,st=>jt r ((((st.kill (aW j)).kill (aW (1000+i))).put j ((((st.kill (aW j)).kill (aW (1000+i)))).cont (1000+i))).put (1000+i) .dead)
def Bt(i k:Nat)(x:Option D)(st:St):St :=
 match x with
 | some x=>(((st.kill (aW k)).put k .dead).kill (aW (1000+i))).put (1000+i) (aV x)
 | none=>st
def jr(i:Nat)(c:D)(st:St):St :=
 match c with
 | .sub k (s::p)=>if 1000<=k then(((st.kill (bH k (s::p))).put k (((st.kill (bH k (s::p))).cont k).hole (s::p))).kill (aW (1000+i))).put (1000+i) (aV ((st.cont k).bj (s::p))) else st
 | .sub k []=>if 1000<=k then Bt i k (st.cont k).iQ st else st
 | _=>st
def ik:List (Nat×Nat)->St->St
 | [],st=>st
 | (_,i)::r,st=>ik r (jr i (st.cont (1000+i)) st)
def fin(post:List (Nat×Nat))(st:St):List D:=((jt post (ik post st)).kill eY).env
class LH where
 body:(List D->Prop)->Ex->List D->Prop
 E:Ex
def uo[h:LH](env:List D):Prop :=
 ∃(js:List Nat)(α:Type)(S:α->List D)(I:α->Prop)(μ:α->Nat)(x0:α),I x0/\(cZ js ⟨env,0,[]⟩).env=S x0/\∀x,I x->h.body (fun env'=>∃x',I x'/\μ x'<μ x/\(cZ js ⟨env',0,[]⟩).env=S x') h.E (S x)
def cM(env:List D):List (Nat×D)->List D
 | []=>env
 | (j,c)::r=>cM (ei env j c) r
theorem aG{body:(List D->Prop)->Ex->List D->Prop}{E:Ex}{env:List D}{α:Type}(js:List Nat)(f:α->List (Nat×D))(I:α->Prop)(μ:α->Nat)(x0:α){env0:List D}(h0:(cZ js ⟨env,0,[]⟩).env=env0)
  (hI:I x0) (he:env0=cM env0 (f x0)) (h:∀x,I x->body (fun env'=>∃x',I x'/\μ x'<μ x/\(cZ js ⟨env',0,[]⟩).env=cM env0 (f x')) E (cM env0 (f x))):@uo ⟨body,E⟩ env :=
 ⟨js,α,fun x=>cM env0 (f x),I,μ,x0,hI,by rw[h0];exact he,h⟩
theorem ax{P:Program}{f:FuncId}{pl:Prop}{K:St->Prop}{st:St}{as:List Arg}{ds:List D}{res:D}(hR:aC P f as res)(ha:as=ds.map .v)(hn:res.bl=true\/pl)(hK:K (st.push (aV res))):@lU P f (some ds) true pl none ⟨K⟩ st :=
 ⟨ds,res,_,rfl,⟨rfl,ha▸hR,hn⟩,.inl rfl,hK⟩
theorem s8{P:Program}{f:FuncId}{pl:Prop}{K:St->Prop}{st:St}{as:List Arg}{ds:List D}{res:D}(hR:aC P f as res)(ha:as=ds.map .v)(hn:res.bl=true\/pl)(hK:K (st.push (aV (.vw res)))):@lU P f (some ds) true pl none ⟨K⟩ st :=
 ⟨ds,res,_,rfl,⟨rfl,ha▸hR,hn⟩,.inr rfl,hK⟩
theorem bG{P:Program}{f:FuncId}{gt:Bool}{pl:Prop}{K:St->Prop}{st:St}{as:List Arg}{ds:List D}{res:D}{b:Bool}(hR:b=true->aC P f as res)(ha:as=ds.map .v)(hgt:b=true->gt=true)(hn:res.bl=true\/pl)(hK:K (st.push (.when b res))) :
  @lU P f (some ds) gt pl (some b) ⟨K⟩ st:=⟨ds,res,_,rfl,fun hb=>⟨hgt hb,ha▸hR hb,hn⟩,.inl rfl,hK⟩
theorem FC{P:Program}{f:FuncId}{gt:Bool}{pl:Prop}{K:St->Prop}{st:St}{as:List Arg}{ds:List D}{res res':D}{b:Bool}(hR:b=true->aC P f as res)(hv:res.BD=res')(ha:as=ds.map .v)(hgt:b=true->gt=true)(hn:res.bl=true\/pl)(hK:K (st.push (.when b res'))) :
  @lU P f (some ds) gt pl (some b) ⟨K⟩ st:=⟨ds,res,_,rfl,fun hb=>⟨hgt hb,ha▸hR hb,hn⟩,.inr rfl,hv▸hK⟩
def pZ(P:Program):RT->(List D->Prop)->St->Prop
 | .leaf l post,K,st=>bZ P (fun st=>K (fin post st)) l st
 | .two _ _ _ a b,K,st=>pZ P a K st/\pZ P b K st
def bA(P:Program):C->(List D->Prop)->Ex->List D->Prop
 | .skip,K,_,env=>K env
 | .ops pre l post,K,_,env=>bZ P (fun st=>K (fin post st)) l (cZ pre ⟨env,0,[]⟩)
 | .di pre l post x a b,K,E,env=>bZ P (fun st=>(st.rd x).gate=true/\iF (st.rd x).core (bA P a K E (fin post st)) (bA P b K E (fin post st))) l (cZ pre ⟨env,0,[]⟩)
 | .vj pre l post x a b c,K,E,env=>bZ P (fun st=>(st.rd x).gate=true/\iF (st.rd x).core (bA P a (bA P c K E) E (fin post st)) (bA P b (bA P c K E) E (fin post st))) l (cZ pre ⟨env,0,[]⟩)
 | .seq a b,K,E,env=>bA P a (bA P b K E) E env
 | .cond x a b,K,E,env=>iF ((⟨env,0,[]⟩:St).rd x) (bA P a K E env) (bA P b K E env)
 | .block id c,K,E,env=>bA P c K ⟨fun i s=>if i=id then K s else E.ex i s,E.ret⟩ env
 | .loop c,_,E,env=>@uo ⟨bA P c,E⟩ env
 | .exit id,_,E,env=>E.ex id env
 | .ret,_,E,env=>E.ret env
 | .alt pre t,K,_,env=>pZ P t K (cZ pre ⟨env,0,[]⟩)
theorem Sr{P:Program}{K:St->Prop}{st:St}:bZ P K (oL []) st=K st:=rfl
theorem Qv{P:Program}{K:St->Prop}{k:Kp}{r:List Kp}{st:St}:bZ P K (oL (k::r)) st=bh P k none (bZ P K (oL r)) st:=rfl
theorem VQ{P:Program}{K:List D->Prop}{E:Ex}{l:List Kp}{env:List D}:bA P (.u l) K E env=bZ P (fun st=>K (fin [] st)) (oL l) (cZ [] ⟨env,0,[]⟩):=rfl
theorem Ul{P:Program}{K:St->Prop}{i:Nat}{g:Option Bool}{st:St}:bh P (.m i) g K st=bh P (.mv (.v i)) g K st:=rfl
theorem Vo{P:Program}{K:St->Prop}{i:Nat}{g:Option Bool}{st:St}:bh P (.n i) g K st=bh P (.mv (.t i)) g K st:=rfl
theorem UG{P:Program}{K:St->Prop}{j i:Nat}{g:Option Bool}{st:St}:bh P (.a j i) g K st=bh P (.bP j (.t i)) g K st:=rfl
end Go.D3
namespace Go.D3
open Go
def ae{α:Type}(f:α->D)(d:α)(l:List α):D:=.slice (f d) (l.map f)
abbrev ints(l:List Int):D:=ae (D.int .i64) 0 l
abbrev bytes(l:List Int):D:=ae (D.int .u8) 0 l
abbrev mb(l:List Bool):D:=ae D.bool false l
abbrev dR(l:List (List UInt8)):D:=ae D.str [] l
abbrev aK(l:List (List Int)):D:=ae ints [] l
abbrev ui(l:List (List Bool)):D:=ae mb [] l
abbrev uw(l:List (List (List UInt8))):D:=ae dR [] l
abbrev gK(l:List (List (List Int))):D:=ae aK [] l
abbrev HJ(l:List (List (List (List Int)))):D:=ae gK [] l
theorem getD_map'{α β:Type}(f:α->β)(d:α)(l:List α)(i:Nat):(l.map f).getD i (f d)=f (l.getD i d):=by
 rw[List.getD_eq_getElem?_getD,List.getD_eq_getElem?_getD,List.getElem?_map];cases l[i]?<;>rfl
section ae
variable{α:Type}{f:α->D}{d:α}{l:List α}
theorem HC:(ae f d l).b7=some l.length:=by simp[ae,D.b7]
theorem HM{i:Nat}:(ae f d l).iP i=(f (l.getD i d)).cells:=by simp only[ae,D.iP,getD_map']
theorem Pr{lo:Option X}:l9 (ae f d l) lo=none:=rfl
theorem Qb:(ae f d l).cells=[ae f d l]:=rfl
theorem NM:(ae f d l).cellsOf=some [ae f d l]:=rfl
theorem Qw:(ae f d l).core=ae f d l:=by simp[ae,D.core]
theorem QL:(ae f d l).gate=true:=rfl
theorem Vi:(ae f d l).un=ae f d l:=rfl
theorem TI{k:Nat}:cf k (ae f d l)=ae f d l:=rfl
theorem Qx{k:Nat}{p:Path}:de k p (ae f d l)=.sub k p:=rfl
theorem Qy{i o:Nat}:(ae f d l).dG i o=(f (l.getD i d)).cells.getD o .dead:=by simp only[ae,D.dG,getD_map']
theorem Nx{i o:Nat}{y:D}:(ae f d l).dy i o y=.slice (f d) ((l.map f).set i (dz (f (l.getD i d)) o y)):=by simp only[ae,D.dy,getD_map']
theorem zo{i:Nat}{x:α}:D.slice (f d) ((l.map f).set i (f x))=ae f d (l.set i x):=by simp[ae,List.map_set]
theorem NN{i o:Nat}:(ae f d l).eH i o=(i<l.length/\o<(f d).cells.length):=by simp[ae,D.eH]
theorem Ob{i:Nat}{y:D}:(ae f d l).gJ i y=jb (f (l.getD i d)) y:=by simp only[ae,D.gJ,getD_map']
theorem SD{M:List α}:(ae f d l).dQ (M.map f)=ae f d (l++M):=by simp[ae,D.dQ]
theorem lK{x:α}:(ae f d l).dQ [f x]=ae f d (l++[x]):=by simp[ae,D.dQ]
theorem QC:(ae f d l).dQ []=ae f d l:=by simp[ae,D.dQ]
theorem SR:(ae f d l).gA=(f d).cells.length:=rfl
theorem Pe:(ae f d l).isAgg=false:=rfl
theorem Pq:(ae f d l).isObj=false:=rfl
theorem SE:(ae f d l).c6=true:=rfl
theorem Od:(ae f d l).lW=true:=rfl
theorem Ql:(ae f d l).cF=false:=rfl
theorem Rx{q:D->Bool}:(ae f d l).kill q=ae f d l:=rfl
theorem Ti{σ:Nat->Nat}:(ae f d l).aw σ=ae f d l:=rfl
theorem Pu:(ae f d l).tight=false:=rfl
theorem zn{Q:D->Prop}:(ae f d l).refs Q=True:=rfl
theorem Qo:aV (ae f d l)=.o (ae f d l):=rfl
theorem TZ:(ae f d l).gz=true:=rfl
theorem Ts:(ae f d l).fu=some (.vw (ae f d l)):=rfl
theorem TW:(ae f d l).p8=some (.vw (ae f d l)):=rfl
theorem N3:aV (.vw (ae f d l))=ae f d l:=rfl
theorem Ta{i:Nat}{st:St}:jr i (ae f d l) st=st:=rfl
theorem SF{K:D->St->Prop}{st:St}:aD (ae f d l) K st=K (.vw (ae f d l)) st:=rfl
theorem Ss{a b:Nat}:(ae f d l).cut a b=some (ae f d ((l.take b).drop a)):=by simp[ae,D.cut,List.map_take,List.map_drop]
theorem QJ{ob:Nat->D}:mJ ob (ae f d l)=some (True,.int .i64 l.length):=by simp[ae,mJ,D.b7,one]
theorem Pg{ob:Nat->D}{sz:Nat}{k:IntKind}{n:Int}:mu sz ob (ae f d l) (.int k n)=some (0<=n/\n<l.length/\(f (l.getD n.toNat d)).cells.length=sz,.ptr (f (l.getD n.toNat d)).cells):=by
 have h:mu sz ob (ae f d l) (.int k n)=(ae f d l).b7.bind fun m=>some (0<=n/\n<m/\((ae f d l).iP n.toNat).length=sz,.ptr ((ae f d l).iP n.toNat)):=rfl
 rw[h,HC,HM];rfl
theorem R7{st:St}:mg st (ae f d l)=some (l.map f):=rfl
theorem Qz:(ae f d l).pG=true:=rfl
theorem SP:(ae f d l).pV=((f d).pG || (f d).isAgg):=rfl
theorem Rq:(ae f d l).gw=true:=rfl
theorem PL{st:St}:nU st (ae f d l)=none:=rfl
theorem Qf{st:St}:isRow st (ae f d l)=none:=rfl
theorem R5:(ae f d l).il=some (l.map f):=rfl
theorem T5:(ae f d l).row?=none:=rfl
theorem IU:(ae f d l).pc=true:=by simp[ae,D.pc]
theorem PD:(ae f d l).fb=some (ae f d l):=rfl
theorem QU(h:∀x,(f x).bl=true):(ae f d l).bl=true:=by
 simp only[ae,D.bl];induction l with
 | nil=>rfl
 | cons a l ih=>simp[dE,h,ih]
theorem RE{ob:Nat->D}{n:Nat}:bf ob (n+1) (ae f d l)=some (ae f d l):=rfl
end ae
theorem OG:D.slice (.int .i64 0) []=ints []:=rfl
theorem Nv:D.slice (.int .u8 0) []=bytes []:=rfl
theorem NJ:D.slice (.bool false) []=mb []:=rfl
theorem NZ:D.slice (.str []) []=dR []:=rfl
theorem Q4{n:Nat}:D.slice (.int .i64 0) (List.replicate n (.int .i64 0))=ints (List.replicate n 0):=by simp[ints,ae]
theorem PQ{n:Nat}:D.slice (.int .u8 0) (List.replicate n (.int .u8 0))=bytes (List.replicate n 0):=by simp[bytes,ae]
theorem PI{n:Nat}:D.slice (.bool false) (List.replicate n (.bool false))=mb (List.replicate n false):=by simp[mb,ae]
theorem QQ{n:Nat}:D.slice (.str []) (List.replicate n (.str []))=dR (List.replicate n []):=by simp[dR,ae]
theorem Pn{n:Nat}:D.slice (ints []) (List.replicate n (ints []))=aK (List.replicate n []):=by simp[aK,ae]
theorem Om{n:Nat}:D.slice (mb []) (List.replicate n (mb []))=ui (List.replicate n []):=by simp[ui,ae]
theorem Pv{n:Nat}:D.slice (dR []) (List.replicate n (dR []))=uw (List.replicate n []):=by simp[uw,ae]
theorem N6{n:Nat}:D.slice (aK []) (List.replicate n (aK []))=gK (List.replicate n []):=by simp[gK,ae]
theorem NF:D.slice (ints []) []=aK []:=rfl
theorem Na:D.slice (mb []) []=ui []:=rfl
theorem NG:D.slice (dR []) []=uw []:=rfl
theorem Nd:D.slice (aK []) []=gK []:=rfl
theorem MS:D.slice (gK []) []=HJ []:=rfl
def mK{α β:Type}(f:α->D)(l:List (α×β)):List D:=l.map fun e=>f e.1
def mV{α β:Type}(g:β->D)(l:List (α×β)):List D:=l.map fun e=>g e.2
def b8{α β:Type}(f:α->D)(g:β->D)(l:List (α×β)):D:=.mp (mK f l) (mV g l)
section maps
variable{α β:Type}{f:α->D}{g:β->D}{l:List (α×β)}{a:α}{b:β}
def fj[BEq α](l:List (α×β))(a:α):Option Nat:=l.findIdx? fun e=>a == e.1
def u5[BEq α](l:List (α×β))(a:α)(z:β):β:=((l.find? fun e=>a == e.1).map (·.2)).getD z
def JC[BEq α](l:List (α×β))(a:α):Bool:=l.any fun e=>a == e.1
def jo[BEq α](l:List (α×β))(a:α)(b:β):List (α×β) :=
 match fj l a with
 | some i=>l.set i ((l.getD i (a,b)).1,b)
 | none=>l++[(a,b)]
theorem RL:D.mp (mK f l) (mV g l)=b8 f g l:=rfl
theorem U7:(b8 f g l).jG=some (mK f l,mV g l):=rfl
theorem Tq:(b8 f g l).pC=some (mK f l,mV g l):=rfl
theorem Vr:(mK f l).length=l.length:=by simp[mK]
theorem P3:(b8 f g l).isAgg=false:=rfl
theorem Ro:(b8 f g l).core=b8 f g l:=by simp[b8,D.core]
theorem RV:(b8 f g l).gate=true:=rfl
theorem QW{k:Nat}{p:Path}:de k p (b8 f g l)=.sub k p:=rfl
theorem Tt{k:Nat}:cf k (b8 f g l)=b8 f g l:=rfl
theorem P6{k:Nat}{p:Path}:py k p (b8 f g l)=b8 f g l:=rfl
theorem UB:(b8 f g l).un=b8 f g l:=rfl
theorem PU:(b8 f g l).cells=[b8 f g l]:=rfl
theorem Np:(b8 f g l).cellsOf=some [b8 f g l]:=rfl
theorem P8:(b8 f g l).isObj=false:=rfl
theorem SZ:(b8 f g l).c6=true:=rfl
theorem RO{q:D->Bool}:(b8 f g l).kill q=b8 f g l:=rfl
theorem Tb{σ:Nat->Nat}:(b8 f g l).aw σ=b8 f g l:=rfl
theorem Qj{Q:D->Prop}:(b8 f g l).refs Q=True:=rfl
theorem QZ:aV (b8 f g l)=.o (b8 f g l):=rfl
theorem NY:aV (.vw (b8 f g l))=b8 f g l:=rfl
theorem U8:(b8 f g l).pc=true:=rfl
theorem PS:(b8 f g l).fb=some (b8 f g l):=rfl
theorem Ru:(b8 f g l).bl=true:=rfl
theorem PJ:(b8 f g l).tight=false:=rfl
theorem QY:(b8 f g l).pG=false:=rfl
theorem SS:(b8 f g l).pV=false:=rfl
theorem FP[BEq α](h:∀a b,kR (f a) (f b)=some (a == b)):ff (f a) (mK f l)=some (fj l a):=by
 unfold mK fj;induction l with
 | nil=>rfl
 | cons e r ih =>
  simp only[List.map_cons,ff,h,Option.bind_some,ih,List.findIdx?_cons];cases a == e.1<;>rfl
theorem Pk{l:List (List UInt8×β)}{a:List UInt8}:ff (.str a) (mK D.str l)=some (fj l a):=FP fun _ _=>rfl
theorem P0{k:IntKind}{l:List (Int×β)}{a:Int}:ff (.int k a) (mK (D.int k) l)=some (fj l a):=FP fun a b=>by simp[kR]
theorem tj[BEq α]:cH (f a) (g b) (mK f l) (mV g l) (fj l a)=(mK f (jo l a b),mV g (jo l a b)):=by
 unfold jo mK mV;cases h:fj l a with
 | none=>simp[cH]
 | some i =>
  have hi:i<l.length:=by
   unfold fj at h;rw[List.findIdx?_eq_some_iff_findIdx_eq] at h;exact h.1
  simp only[cH,List.map_set];congr 1;have:f (l.getD i (a,b)).1=(l.map fun e=>f e.1)[i]'(by simpa using hi):=by simp[List.getD_eq_getElem?_getD,hi]
  rw[this,List.set_getElem_self]
theorem Hh[BEq α]{z:β}:iN (g z) (mV g l) (fj l a)=g (u5 l a z):=by
 unfold fj u5 mV;induction l with
 | nil=>rfl
 | cons e r ih =>
  rw[List.findIdx?_cons,List.find?_cons];cases h:a == e.1 with
  | true=>simp[iN]
  | false =>
   simp only[Bool.false_eq_true,if_false] at ih|-
   rw[<-ih];cases r.findIdx? (fun e=>a == e.1)<;>simp[iN]
theorem O2[BEq α]:(fj l a).isSome=JC l a:=by
 unfold fj JC;rw[List.findIdx?_isSome]
theorem RP[BEq α]{k:IntKind}{l:List (α×Int)}{z:Int}:iN (.int k z) (mV (D.int k) l) (fj l a)=.int k (u5 l a z):=Hh
theorem Qd[BEq α]{l:List (α×Bool)}{z:Bool}:iN (.bool z) (mV D.bool l) (fj l a)=.bool (u5 l a z):=Hh
theorem TV{k:IntKind}{l:List (List UInt8×Int)}{a:List UInt8}{b:Int}:cH (.str a) (.int k b) (mK D.str l) (mV (D.int k) l) (fj l a)=(mK D.str (jo l a b),mV (D.int k) (jo l a b)):=tj
theorem Ua{l:List (List UInt8×Bool)}{a:List UInt8}{b:Bool}:cH (.str a) (.bool b) (mK D.str l) (mV D.bool l) (fj l a)=(mK D.str (jo l a b),mV D.bool (jo l a b)):=tj
theorem Td{j k:IntKind}{l:List (Int×Int)}{a b:Int}:cH (.int j a) (.int k b) (mK (D.int j) l) (mV (D.int k) l) (fj l a)=(mK (D.int j) (jo l a b),mV (D.int k) (jo l a b)):=tj
theorem S4{j:IntKind}{l:List (Int×Bool)}{a:Int}{b:Bool}:cH (.int j a) (.bool b) (mK (D.int j) l) (mV D.bool l) (fj l a)=(mK (D.int j) (jo l a b),mV D.bool (jo l a b)):=tj
end maps
abbrev Jp(s:List UInt8):List Int:=s.map fun b=>(b.toNat:Int)
def byteOf(n:Int):UInt8:=UInt8.ofNat n.toNat
theorem OR{s:List UInt8}:re s=bytes (Jp s):=by simp[re,bytes,ae,Jp,Function.comp_def]
theorem D7:∀{l:List Int},bytesOf (l.map (D.int .u8))=some (l.map byteOf)
 | []=>rfl
 | a::r=>by simp only[List.map_cons,bytesOf,D7 (l:=r),Option.bind_some];rfl
theorem Qc{l:List Int}:(ae (D.int .u8) 0 l).lr=some (l.map byteOf):=D7
attribute [go_sem] RL U7 Tq Vr P3 Ro RV QW Tt P6 UB PU Np P8 SZ RO Tb Qj QZ NY U8 PS Ru PJ QY SS
 Pk P0 O2 RP Qd TV Ua Td S4 OR Qc List.head?_cons
section
variable{P:Program}{K:St->Prop}{E:Ex}{st st':St}{env env':List D}
@[congr] theorem W8{c:C}{K:List D->Prop}(h:env=env'):bA P c K E env=bA P c K E env':=by rw[h]
@[congr] theorem WU{l:List bc}(h:st=st'):bZ P K l st=bZ P K l st':=by rw[h]
@[congr] theorem W1{k:Kp}{g g':Option Bool}(hg:g=g')(h:st=st'):bh P k g K st=bh P k g' K st':=by rw[h,hg]
@[congr] theorem WA{r r':Option PR}{g g':Option Bool}(h:r=r')(hg:g=g'):gj r g K st=gj r' g' K st:=by rw[h,hg]
@[congr] theorem WR{r r':Option PR}{g g':Option Bool}(h:r=r')(hg:g=g'):eV r g K st=eV r' g' K st:=by rw[h,hg]
@[congr] theorem Wx{v v':Option Bool}{K:Bool->Prop}(h:v=v'):iW v K=iW v' K:=by rw[h]
@[congr] theorem Wy{v v':D}{A B:Prop}(h:v=v'):iF v A B=iF v' A B:=by rw[h]
@[congr] theorem WS{α:Type}{v v':Option α}{K:α->Prop}(h:v=v'):cK v K=cK v' K:=by rw[h]
@[congr] theorem WY{j:Nat}{x x':D}(h:x=x'):mC j x K st=mC j x' K st:=by rw[h]
@[congr] theorem WW{j:Nat}{x x':D}(h:x=x'):kS j x K st=kS j x' K st:=by rw[h]
@[congr] theorem WV{j:Nat}{x x':D}(h:x=x'):pv j x K st=pv j x' K st:=by rw[h]
@[congr] theorem W5{x x':D}{K:D->St->Prop}(h:x=x')(hs:st=st'):aD x K st=aD x' K st':=by rw[h,hs]
@[congr] theorem W0{x x':List D}{K:List D->St->Prop}(h:x=x')(hs:st=st'):cL x K st=cL x' K st':=by rw[h,hs]
@[congr] theorem WK{k:Nat}{p p':Path}{K:D->St->Prop}(h:p=p')(hs:st=st'):eo k p K st=eo k p' K st':=by rw[h,hs]
@[congr] theorem WM{x x':D}{K:D->St->Prop}(h:x=x')(hs:st=st'):gN x K st=gN x' K st':=by rw[h,hs]
@[congr] theorem Ww{n:Nat}{a a' x x':D}(h:a=a')(hs:x=x'):lP n a x K st=lP n a' x' K st:=by rw[h,hs]
@[congr] theorem WC{n:Nat}{a a' x x':D}(h:a=a')(hs:x=x'):jd n a x K st=jd n a' x' K st:=by rw[h,hs]
@[congr] theorem WZ{n m:Nat}{a a' x x':D}(h:a=a')(hs:x=x'):nZ n m a x K st=nZ n m a' x' K st:=by rw[h,hs]
@[congr] theorem Wz{f:FuncId}{ds ds':Option (List D)}{gt gt':Bool}{pl pl':Prop}{g g':Option Bool}{K:KH}(h1:ds=ds')(h2:gt=gt')(h3:pl=pl')(h:g=g')(hs:st=st'):lU P f ds gt pl g st=lU P f ds' gt' pl' g' st':=by rw[h1,h2,h3,h,hs]
@[congr] theorem W6{f:FuncId}{d d':D}{ds ds':Option (List D)}{gt gt':Bool}{pl pl':Prop}{g g':Option Bool}{K:KH}(h0:d=d')(h1:ds=ds')(h2:gt=gt')(h3:pl=pl')(h:g=g')(hs:st=st'):uZ P f d ds gt pl g st=uZ P f d' ds' gt' pl' g' st':=by rw[h0,h1,h2,h3,h,hs]
@[congr] theorem WH{l l' ys ys':List D}{K:St->Prop}(h0:l=l')(h1:ys=ys')(hs:st=st'):gn l ys K st=gn l' ys' K st':=by rw[h0,h1,hs]
@[congr] theorem WO{x x' y y':D}{r r':List D}{K:St->Prop}(h0:x=x')(h1:y=y')(h2:r=r')(hs:st=st'):px x r y K st=px x' r' y' K st':=by rw[h0,h1,h2,hs]
@[congr] theorem W7{f:FuncId}{ds ds':List D}{gt gt':Bool}{g g':Bool}{K:KH}(h1:ds=ds')(h2:gt=gt')(h:g=g')(hs:st=st'):oA P f ds gt g st=oA P f ds' gt' g' st':=by rw[h1,h2,h,hs]
@[congr] theorem W2{x x':D}{ds ds':List D}{gt gt':Bool}{g g':Bool}{K:KH}(h0:x=x')(h1:ds=ds')(h2:gt=gt')(h:g=g')(hs:st=st'):lj P x ds gt g st=lj P x' ds' gt' g' st':=by rw[h0,h1,h2,h,hs]
@[congr] theorem WQ{x x':D}{K:D->St->Prop}(h:x=x')(hs:st=st'):kc x K st=kc x' K st':=by rw[h,hs]
@[congr] theorem WI{d d' l l':List D}{K:List D->St->Prop}(h:d=d')(h':l=l')(hs:st=st'):fP d l K st=fP d' l' K st':=by rw[h,h',hs]
@[congr] theorem WB{n:Nat}{x x':D}(h:x=x')(hs:st=st'):o9 n x K st=o9 n x' K st':=by rw[h,hs]
@[congr] theorem WD{z x x':D}(h:x=x')(hs:st=st'):pg z x K st=pg z x' K st':=by rw[h,hs]
@[congr] theorem WJ{x x' y y':D}{K:KH}(h:x=x')(h':y=y')(hs:st=st'):rq x y st=rq x' y' st':=by rw[h,h',hs]
@[congr] theorem WG{kk:Nat}{x x' y y' z z':D}{K:KH}(h:x=x')(h':y=y')(h2:z=z')(hs:st=st'):nV kk x y z st=nV kk x' y' z' st':=by rw[h,h',h2,hs]
@[congr] theorem WN{j:Nat}{K:KH}(hs:st=st'):nT j st=nT j st':=by rw[hs]
@[congr] theorem WT{x x':D}{ds ds':List D}{gt gt':Bool}{g g':Option Bool}{K:KH}(h0:x=x')(h1:ds=ds')(h2:gt=gt')(h:g=g')(hs:st=st'):jf P x ds gt g st=jf P x' ds' gt' g' st':=by rw[h0,h1,h2,h,hs]
@[congr] theorem WE{h:LH}(he:env=env'):uo env=uo env':=by rw[he]
end
attribute [go_sem] bA.eq_1 bA.eq_2 bA.eq_3 bA.eq_4 bA.eq_5 bA.eq_6 bA.eq_7 bA.eq_8 bA.eq_9 bA.eq_10 bA.eq_11 bZ.eq_1 bZ.eq_2 bZ.eq_3 bh.eq_1 bh.eq_2 bh.eq_3 bh.eq_4 bh.eq_5 bh.eq_6 bh.eq_7
  bh.eq_8 bh.eq_9 bh.eq_10 bh.eq_11 bh.eq_12 bh.eq_13 bh.eq_14 bh.eq_15 bh.eq_16 bh.eq_17 bh.eq_18 bh.eq_19 bh.eq_20 bh.eq_21 bh.eq_22 bh.eq_23 bh.eq_24 bh.eq_25 bh.eq_26 bh.eq_27 bh.eq_28
  gj.eq_1 gj.eq_2 eV.eq_1 eV.eq_2 bW.eq_1 bW.eq_2 bW.eq_3 bW.eq_4 bW.eq_5 bW.eq_6 bW.eq_7 bW.eq_8 bW.eq_9 kB.eq_1 kB.eq_2 ox.eq_1 ox.eq_2 mC.eq_1 pv.eq_1 kS.eq_1 kS.eq_2 jH.eq_1
  jH.eq_2 jH.eq_3 my.eq_1 my.eq_2 my.eq_3 D.uQ.eq_1 D.uQ.eq_2 D.c6.eq_1 D.c6.eq_2 D.c6.eq_3 D.c6.eq_4 D.c6.eq_5 rH.eq_1 rH.eq_2 D.lW.eq_1 D.lW.eq_2 D.lW.eq_3 D.lW.eq_4 D.lW.eq_5
  D.lW.eq_6 aD.eq_1 aD.eq_2 aD.eq_3 aD.eq_4 aD.eq_5 aD.eq_6 aD.eq_7 aD.eq_8 aD.eq_9 aD.eq_10 aD.eq_11 aD.eq_12 aD.eq_13 aD.eq_14 aD.eq_15 cL.eq_1 cL.eq_2 eo.eq_1 eo.eq_2 gN.eq_1
  gN.eq_2 gN.eq_3 jd.eq_1 jd.eq_2 nZ.eq_1 aV.eq_1 aV.eq_2 aV.eq_3 aV.eq_4 aV.eq_5 aV.eq_6 aV.eq_7 aV.eq_8 aV.eq_9 aV.eq_10 aV.eq_11 aV.eq_12 aV.eq_13 aV.eq_14
  aV.eq_15 aV.eq_16 aV.eq_17 bF.eq_1 bF.eq_2 bF.eq_3 bF.eq_4 bF.eq_5 bF.eq_6 bF.eq_7 bF.eq_8 bF.eq_9 bF.eq_10 bF.eq_11 bF.eq_12 bF.eq_13 bF.eq_14 bF.eq_15 bF.eq_16 bF.eq_17 bF.eq_18 bF.eq_19
  bF.eq_20 bF.eq_21 bF.eq_22 bF.eq_23 bF.eq_24 bF.eq_25 bF.eq_26 bF.eq_27 bF.eq_28 bF.eq_29 g1.eq_1 g1.eq_2 g2.eq_1 g2.eq_2 one.eq_1 St.rd.eq_1 St.rd.eq_2 St.rd.eq_3 St.rd.eq_4 St.rd.eq_5 St.cont.eq_1 St.put.eq_1
  St.push.eq_1 St.kill.eq_1 cf.eq_1 cf.eq_2 cf.eq_3 cf.eq_4 de.eq_1 de.eq_2 de.eq_3 de.eq_4 de.eq_5 de.eq_6 de.eq_7 de.eq_8 de.eq_9 de.eq_10 de.eq_11 de.eq_12 de.eq_13 de.eq_14 de.eq_15 jn.eq_1
  jn.eq_2 nth.eq_1 nth.eq_2 nth.eq_3 ei.eq_1 ei.eq_2 ei.eq_3 dZ.eq_1 dZ.eq_2 D.kill.eq_1 D.kill.eq_2 D.kill.eq_3 D.kill.eq_4 D.kill.eq_5 D.kill.eq_6 D.kill.eq_7 D.kill.eq_8 D.kill.eq_9 D.kill.eq_10 D.core.eq_1
  D.core.eq_2 D.gate.eq_1 D.gate.eq_2 rI.eq_1 rI.eq_2 rI.eq_3 uK.eq_1 uK.eq_2 uP.eq_1 uP.eq_2 u7.eq_1 u7.eq_2 ly.eq_1 ly.eq_2 fN.eq_1 fN.eq_2 fN.eq_3 fN.eq_4 fN.eq_5 fN.eq_6 fN.eq_7
  fN.eq_8 fN.eq_9 fN.eq_10 fN.eq_11 fN.eq_12 fN.eq_13 jc.eq_1 jc.eq_2 jc.eq_3 jc.eq_4 jc.eq_5 jc.eq_6 jc.eq_7 jc.eq_8 o6.eq_1 o6.eq_2 o6.eq_3 mJ.eq_1
  mJ.eq_2 uL.eq_1 uL.eq_2 mu.eq_1 mu.eq_2 mu.eq_3 mS.eq_1 mS.eq_2 mS.eq_3 mH.eq_1 mH.eq_2 mH.eq_3 mN.eq_1 mN.eq_2 mN.eq_3 u3.eq_1 u3.eq_2 uF.eq_1 uF.eq_2 u4.eq_1 u4.eq_2 uH.eq_1
  uH.eq_2 uG.eq_1 uG.eq_2 mi.eq_1 mi.eq_2 AP.eq_1 Bn.eq_1 A6.eq_1 rj.eq_1 rj.eq_2 rj.eq_3 ml.eq_1 ml.eq_2 mq.eq_1 mq.eq_2 setCells.eq_1 setCells.eq_2 D.cellsOf.eq_1 D.cellsOf.eq_2
  D.cellsOf.eq_3 D.cellsOf.eq_4 D.cellsOf.eq_5 D.cellsOf.eq_6 D.cellsOf.eq_7 D.cellsOf.eq_8 D.cellsOf.eq_9 fS.eq_1 fS.eq_2 bf.eq_1 bf.eq_2 bf.eq_3 bf.eq_4 bf.eq_5 bf.eq_6 bf.eq_7 bf.eq_8 bf.eq_9 bf.eq_10
  bf.eq_11 bf.eq_12 bf.eq_13 bf.eq_14 gM.eq_1 gM.eq_2 dN.eq_1 dN.eq_2 iF.eq_1 iF.eq_2 cZ.eq_1 cZ.eq_2 jt.eq_1 jt.eq_2 jr.eq_1 jr.eq_2 jr.eq_3 Bt.eq_1 Bt.eq_2 ik.eq_1 ik.eq_2
  fin.eq_1 iW.eq_1 iW.eq_2 gd.eq_1 cK.eq_1 cK.eq_2 isRow.eq_1 isRow.eq_2 nU.eq_1 nU.eq_2 nU.eq_3 D.BH.eq_1 D.BH.eq_2 D.pV.eq_1 D.pV.eq_2 D.pG.eq_1 D.pG.eq_2 D.gw.eq_1 D.gw.eq_2 D.gw.eq_3
  D.gw.eq_4 D.gw.eq_5 D.gw.eq_6 D.gw.eq_7 D.gw.eq_8 D.gw.eq_9 D.gw.eq_10 D.gw.eq_11 nW.eq_1 nW.eq_2 D.vp.eq_1 mg.eq_1 mg.eq_2 uq.eq_1 D.row?.eq_1 D.row?.eq_2 D.il.eq_1 D.il.eq_2 D.il.eq_3
  D.o?.eq_1 D.o?.eq_2 D.gz.eq_1 D.gz.eq_2 D.gz.eq_3 D.gz.eq_4 D.gz.eq_5 D.gz.eq_6 D.gz.eq_7 D.gz.eq_8 D.gz.eq_9 D.gz.eq_10 nX.eq_1 nX.eq_2 D.rv.eq_1 D.rv.eq_2 lP.eq_1 lP.eq_2 D.iQ.eq_1 D.iQ.eq_2
  D.iQ.eq_3 D.fu.eq_1 D.fu.eq_2 D.fu.eq_3 D.fu.eq_4 D.fu.eq_5 D.fu.eq_6 D.fu.eq_7 D.fu.eq_8 D.p8.eq_1 D.p8.eq_2 D.int?.eq_1 D.int?.eq_2 D.mA.eq_1 D.mA.eq_2 D.bool?.eq_1 D.bool?.eq_2 D.rJ.eq_1 D.rJ.eq_2
  D.rJ.eq_3 D.pc.eq_1 D.pc.eq_2 D.pc.eq_3 D.pc.eq_4 D.pc.eq_5 D.pc.eq_6 D.pc.eq_7 D.pc.eq_8 D.pc.eq_9 pE.eq_1 pE.eq_2 D.fb.eq_1 D.fb.eq_2 D.fb.eq_3 D.fb.eq_4 D.fb.eq_5 D.fb.eq_6 D.fb.eq_7
  D.fb.eq_8 D.fb.eq_9 D.fb.eq_10 D.fb.eq_11 D.fb.eq_12 D.fb.eq_13 om.eq_1 om.eq_2 ux.eq_1 ux.eq_2 uY.eq_1 uY.eq_2 mB.eq_1 mB.eq_2 mB.eq_3 mB.eq_4 uR.eq_1 uR.eq_2 gO.eq_1 gO.eq_2
  gO.eq_3 gO.eq_4 gO.eq_5 Bh.eq_1 vg.eq_1 l9.eq_1 l9.eq_2 kg.eq_1 kg.eq_2 mc.eq_1 mc.eq_2 bump.eq_1 bump.eq_2 bump.eq_3 looks.eq_1 looks.eq_2 rG.eq_1 rG.eq_2 nR.eq_1 py.eq_1 py.eq_2
  D.refs.eq_1 D.refs.eq_2 D.refs.eq_3 D.refs.eq_4 D.refs.eq_5 D.refs.eq_6 D.refs.eq_7 D.refs.eq_8 D.refs.eq_9 D.refs.eq_10 bN.eq_1 bN.eq_2 mf.eq_1 mf.eq_2 AJ.eq_1 AJ.eq_2 lV.eq_1 lV.eq_2 lV.eq_3
  apart.eq_1 apart.eq_2 apart.eq_3 cu.eq_1 cu.eq_2 cu.eq_3 eL.eq_1 ja.eq_1 ja.eq_2 aW.eq_1 aW.eq_2 aW.eq_3 bH.eq_1 bH.eq_2 bH.eq_3 bI.eq_1 bI.eq_2 bI.eq_3 gD.eq_1 gD.eq_2 gD.eq_3
  jI.eq_1 jI.eq_2 jI.eq_3 cO.eq_1 D.hole.eq_1 D.AI.eq_1 px.eq_1 px.eq_2 gn.eq_1 gn.eq_2 gn.eq_3 eY.eq_1 eY.eq_2 eY.eq_3 D.b7.eq_1 D.b7.eq_2 D.b7.eq_3 D.b7.eq_4 D.iP.eq_1 D.iP.eq_2 D.cells.eq_1
  D.cells.eq_2 lk.eq_1 D.isObj.eq_1 D.isObj.eq_2 D.isObj.eq_3 D.isObj.eq_4 D.gS.eq_1 D.gS.eq_2 D.bj.eq_1 D.at.eq_1 D.at.eq_2 D.aZ.eq_1 D.dG.eq_1 D.dG.eq_2 D.dG.eq_3 D.dG.eq_4 D.dG.eq_5 D.dG.eq_6 D.dG.eq_7
  D.un.eq_1 D.un.eq_2 br.eq_1 br.eq_2 D.aX.eq_1 D.aX.eq_2 D.aX.eq_3 D.aX.eq_4 D.aX.eq_5 D.aX.eq_6 D.has.eq_1 D.has.eq_2 D.jY.eq_1 D.eH.eq_1 D.eH.eq_2 D.eH.eq_3 D.eH.eq_4 D.eH.eq_5
  D.eH.eq_6 D.eH.eq_7 D.setAt.eq_1 D.setAt.eq_2 D.ez.eq_1 D.ez.eq_2 D.dy.eq_1 D.dy.eq_2 D.dy.eq_3 D.dy.eq_4 D.dy.eq_5 D.dy.eq_6 D.dy.eq_7 dz.eq_1 dz.eq_2 ea.eq_1
  ea.eq_2 mD.eq_1 mD.eq_2 eT.eq_1 eT.eq_2 eT.eq_3 eT.eq_4 dU.eq_1 dU.eq_2 dU.eq_3 D.gJ.eq_1 D.gJ.eq_2 D.gJ.eq_3 jb.eq_1 D.isAgg.eq_1 D.isAgg.eq_2 D.cF.eq_1 D.cF.eq_2 D.cF.eq_3
  D.cF.eq_4 D.dQ.eq_1 D.dQ.eq_2 D.gA.eq_1 D.gA.eq_2 D.gA.eq_3 D.cut.eq_1 D.cut.eq_2 D.cut.eq_3 D.cut.eq_4 D.bl.eq_1 D.bl.eq_2 D.bl.eq_3 D.bl.eq_4 D.bl.eq_5 D.bl.eq_6 D.bl.eq_7 dE.eq_1 dE.eq_2
  jf.eq_1 jf.eq_2 jf.eq_3 lj.eq_1 lj.eq_2 kc.eq_1 kc.eq_2 fP.eq_1 fP.eq_2 fP.eq_3 o9.eq_1 pg.eq_1 qP.eq_1 qP.eq_2 jl.eq_1 jl.eq_2 AG.eq_1 nV.eq_1 nV.eq_2 nV.eq_3
  nT.eq_1 D.rF.eq_1 D.rF.eq_2 pz.eq_1 pz.eq_2 pz.eq_3 Bs.eq_1 four.eq_1 four.eq_2 four.eq_3 four.eq_4 four.eq_5 Ba.eq_1 Ba.eq_2 A8.eq_1 kR.eq_1 kR.eq_2 kR.eq_3 kR.eq_4 ff.eq_1 ff.eq_2
  D.jG.eq_1 D.jG.eq_2 D.pC.eq_1 D.pC.eq_2 D.pC.eq_3 mapOf.eq_1 mapOf.eq_2 D.jE.eq_1 D.jE.eq_2 D.jE.eq_3 D.jE.eq_4 iN.eq_1 iN.eq_2 uU.eq_1 uN.eq_1 cH.eq_1 cH.eq_2 D.lr.eq_1 D.lr.eq_2 D.lr.eq_3
  D.lr.eq_4 pR.eq_1 pR.eq_2 eX.eq_1 eX.eq_2 D.aw.eq_1 D.aw.eq_2 D.aw.eq_3 D.aw.eq_4 D.aw.eq_5 D.aw.eq_6 D.aw.eq_7 D.aw.eq_8 D.aw.eq_9 D.aw.eq_10 dA.eq_1 dA.eq_2 jU.eq_1 jU.eq_2 jU.eq_3 kl.eq_1
  kl.eq_2 kl.eq_3 vc.eq_1 vc.eq_2 rT.eq_1 rT.eq_2 oC.eq_1 oC.eq_2 oC.eq_3 qG.eq_1 qG.eq_2 fO.eq_1 fO.eq_2 j7.eq_1 j7.eq_2 j7.eq_3 D.tight.eq_1 D.tight.eq_2 D.tight.eq_3 D.tight.eq_4 D.tight.eq_5
  D.tight.eq_6 D.tight.eq_7 D.tight.eq_8 D.tight.eq_9 D.tight.eq_10 D.tight.eq_11 D.tight.eq_12 jV.eq_1 jV.eq_2 D.pf.eq_1 D.pf.eq_2 oZ.eq_1 oZ.eq_2 D.iH.eq_1 D.iH.eq_2 D.iH.eq_3 jS.eq_1
  jS.eq_2
 HC HM Option.elim_none Option.elim_some Pr Qb NM Qw QL Vi TI Qx Qy Nx zo NN Ob SD lK QC SR Pe Pq Ql SE Od Rx zn Ti Pu Qo Ta SF Ss RE QJ Pg R7 Qf Qz SP Rq PL R5 T5 IU PD TZ Ts TW N3
 OG Nv NJ NZ NF Na NG Nd MS Q4 PQ PI QQ Pn Om Pv N6
 Option.bind_some Option.map_some Option.bind_none Option.map_none Option.some.injEq if_true if_false true_and and_true Bool.true_and Bool.and_true Bool.and_self Bool.false_and Bool.and_false Bool.not_true Bool.not_false List.drop_zero List.drop_succ_cons List.take_succ_cons List.take_zero List.length_cons List.length_nil List.replicate_succ List.replicate_zero List.map_cons List.map_nil
 List.getD_cons_zero List.getD_cons_succ List.set_cons_zero List.set_cons_succ List.cons_append List.nil_append List.append_nil List.isEmpty_nil List.isEmpty_cons
 reduceCtorEq decide_true decide_false implies_true true_implies false_implies and_self ne_eq not_false_eq_true not_true_eq_false beq_iff_eq true_or or_true false_or or_false eq_self Bool.false_eq_true decide_eq_true_eq decide_eq_false_iff_not Nat.zero_add Nat.add_zero imp_self
end Go.D3
namespace Go.D3
open Go
def rl(k:IntKind)(n:Int):Bool:=decide (k.min<=n)&&decide (n<=k.max)
theorem jO{k:IntKind}{n:Int}(h:rl k n=true):k.has n:=by
 simp[rl] at h;exact h
def dv(P:Program)(t:TypeId)(n:Nat):Bool :=
 match P.info? t with
 | some i=>decide (i.size=n)
 | none=>false
def nP(P:Program)(t:TypeId)(n:Nat):Bool :=
 match P.info? t with
 | some i=>decide (i.bytes=n)
 | none=>false
def mI(P:Program)(t:TypeId):Bool:=match P.underlying t with
 | some (.struct _) | some (.array _ _)=>true
 | _=>false
def jm(P:Program)(t:TypeId):Bool:=match P.underlying t with
 | some (.struct _) | some (.array _ _) | none=>false
 | _=>true
def iG(P:Program)(t:TypeId):Option TypeId:=match P.underlying t with
 | some (.slice e)=>some e
 | _=>none
def gY(P:Program)(t:TypeId)(f:Nat):Option (Nat×TypeId):=match P.underlying t with
 | some (.struct fs)=>(fs[f]?).map fun x=>(x.offset,x.type)
 | _=>none
theorem nK{n:Nat}(h:n<=maxLen):IntKind.i64.has (n:Int):=by
 simp only[maxLen] at h;constructor
 ·simp[IntKind.min,IntKind.signed,IntKind.bits]<;>omega
 ·simp[IntKind.max,IntKind.signed,IntKind.bits]<;>omega
theorem tn(k:IntKind)(n:Int):k.has (k.wrap n):=by
 have hs:∀(bits:Nat),True:=fun _=>trivial
 cases k<;>simp only[IntKind.has,IntKind.min,IntKind.max,IntKind.wrap,IntKind.signed,IntKind.bits]<;>simp<;>(first | omega | (split<;>omega))
def Yd(P:Program)(o:Oper)(a:Act)(w:World)(v:Value):Prop:=(execOp a.eval o).run P w=.ok (.value v) w
section
variable{P:Program}{o:Oper}{w:World}{a:Act}
theorem tw{x:Operand}(ho:o.op=.move x\/o.op=.assign x):Yd P o a w (a.eval x):=by
 rcases ho with ho | ho<;>simp[Yd,execOp,ho]
theorem Oh{op:BinOp}{k:IntKind}{m n:Int}(hm:k.has m){side:Prop}{d:D}(hb:fN op k m n=some (side,d))(hs:side):∃v,Rd w (fun _=>False) v d /\
  (∀{t u:TypeId}{x y:Operand},o.op=.binOp op t x y u->a.eval x=.int k m->a.eval y=.int k n->Yd P o a w v):=by
 have hg:∀t x y w,(eqGuard op t x y (.int k m) (.int k n)).run P w=.ok () w:=by
  intro t x y w;unfold eqGuard;cases op<;>rfl
 have hq:∀(d:Int),(¬n=0)->(Op.intDiv .quo k m n).run P w=.ok (.int k (k.wrap (m.tdiv n))) w/\(Op.intDiv .rem k m n).run P w=.ok (.int k (m.tmod n)) w:=by
  intro _ h0;constructor<;>simp[Op.intDiv,h0]
 cases op<;>simp only[fN,Option.some.injEq,Prod.mk.injEq,reduceCtorEq] at hb
 case quo =>
  obtain⟨h1,rfl⟩:=hb;rw[<-h1] at hs;refine⟨.int k (k.wrap (m.tdiv n)),Rd.int (tn _ _),fun ho hx hy=>?_⟩;simp[Yd,execOp,ho,hx,hy,hg,binOp,(hq 0 hs).1]
 case rem =>
  obtain⟨h1,rfl⟩:=hb;rw[<-h1] at hs;refine⟨.int k (m.tmod n),Rd.int ?_,fun ho hx hy=>by simp[Yd,execOp,ho,hx,hy,hg,binOp,(hq 0 hs).2]⟩
  have h3:(m.tmod n).natAbs<=m.natAbs:=by
   rw[Int.natAbs_tmod];exact Nat.mod_le _ _
  obtain⟨h4,h5⟩:=hm;have h8:k.min<=0/\0<=k.max:=by cases k<;>simp[IntKind.min,IntKind.max,IntKind.signed,IntKind.bits]
  rcases Int.le_total 0 m with h6 | h6
  ·have h7:=Int.tmod_nonneg n h6
   constructor<;>omega
  ·have h7:m.tmod n<=0:=by
    have:=Int.tmod_nonneg n (show 0<=-m by omega);rw[Int.neg_tmod] at this;omega
   constructor<;>omega
 case and =>
  obtain⟨-,rfl⟩:=hb;refine⟨_,Rd.int (tn _ _),fun ho hx hy=>?_⟩;simp only[Yd,execOp,ho,hx,hy,binOp,ne_eq,not_true_eq_false,if_false];rfl
 all_goals
  obtain⟨-,rfl⟩:=hb
  first
  | exact⟨_,Rd.int (tn _ _),fun ho hx hy=>by simp[Yd,execOp,ho,hx,hy,hg,binOp,Op.intArith]⟩
  | exact⟨_,Rd.bool,fun ho hx hy=>by simp[Yd,execOp,ho,hx,hy,hg,binOp,Op.intCmp]⟩
theorem TH{k:IntKind}{m:Int}(hm:k.has m)(n:Nat):k.has (m.fdiv (2 ^ n)):=by
 have hp:(0:Int)<2 ^ n:=Int.pow_pos (by decide);rw[Int.fdiv_eq_ediv_of_nonneg _ (Int.le_of_lt hp)];obtain⟨h1,h2⟩:=hm;have h0:k.min<=0/\0<=k.max:=by cases k<;>simp[IntKind.min,IntKind.max,IntKind.signed,IntKind.bits]
 constructor
 ·refine(Int.le_ediv_iff_mul_le hp).2 ?_
  have:=Int.mul_le_mul_of_nonpos_left h0.1 (show(1:Int)<=2 ^ n by omega);omega
 ·rcases Int.le_total 0 m with h | h
  ·have:=Int.ediv_le_self (2 ^ n) h
   omega
  ·have:=(Int.ediv_lt_iff_lt_mul hp (a:=m) (b:=1)).2 (by omega)
   omega
theorem Uz{k k':IntKind}{m n:Int}{t u:TypeId}{x y:Operand}(ho:o.op=.binOp .shr t x y u)(hx:a.eval x=.int k m)(hy:a.eval y=.int k' n)(h0 : 0<=n)(h1:n<=k.bits):Yd P o a w (.int k (m.fdiv (2 ^ n.toNat))):=by
 have h2:¬n<0:=by omega
 have h3:min n.toNat k.bits=n.toNat:=by omega
 simp[Yd,execOp,ho,hx,hy,eqGuard,binOp,Op.shift,h2,h3]
theorem Ox{op:BinOp}{m n:List UInt8}{side:Prop}{d:D}(hb:jc op m n=some (side,d))(hs:side):∃v,Rd w (fun _=>False) v d /\
  (∀{t u:TypeId}{x y:Operand},o.op=.binOp op t x y u->a.eval x=.string ⟨m.toArray⟩->a.eval y=.string ⟨n.toArray⟩->Yd P o a w v):=by
 have hg:∀t x y w,(eqGuard op t x y (.string ⟨m.toArray⟩) (.string ⟨n.toArray⟩)).run P w=.ok () w:=by
  intro t x y w;unfold eqGuard;cases op<;>rfl
 have hl:∀l:List UInt8,(⟨l.toArray⟩:ByteArray).toList=l:=fun l=>by rw[ByteArray.toList_eq]
 cases op<;>simp only[jc,Option.some.injEq,Prod.mk.injEq,reduceCtorEq] at hb
 case add =>
  obtain⟨h1,rfl⟩:=hb;rw[<-h1] at hs;refine⟨.string ⟨(m++n).toArray⟩,Rd.str (by simpa using hs),fun ho hx hy=>?_⟩
  have h2:(m.length:Int)+n.length<=9223372036854775807:=by
   simp only[maxLen] at hs;omega
  have h3:(⟨m.toArray⟩++⟨n.toArray⟩:ByteArray)=⟨(m++n).toArray⟩:=by
   apply ByteArray.ext;simp
  have h4:(⟨m.toArray⟩:ByteArray).size=m.length:=rfl;have h5:(⟨n.toArray⟩:ByteArray).size=n.length:=rfl;simp[Yd,execOp,ho,hx,hy,hg,binOp,Op.stringOp,h2,h3,h4,h5]
 all_goals
  obtain⟨-,rfl⟩:=hb;exact⟨_,Rd.bool,fun ho hx hy=>by simp[Yd,execOp,ho,hx,hy,hg,binOp,Op.stringOp,hl]⟩
theorem ND{op:BinOp}{m n:Bool}{side:Prop}{d:D}(hb:o6 op m n=some (side,d)):∃v,Rd w (fun _=>False) v d /\
  (∀{t u:TypeId}{x y:Operand},o.op=.binOp op t x y u->a.eval x=.bool m->a.eval y=.bool n->P.underlying t=some .bool->Yd P o a w v):=by
 have hg:∀t x y w,(eqGuard op t x y (.bool m) (.bool n)).run P w=.ok () w:=by
  intro t x y w;unfold eqGuard;cases op<;>rfl
 cases op<;>simp only[o6,Option.some.injEq,Prod.mk.injEq,reduceCtorEq] at hb
 all_goals
  obtain⟨-,rfl⟩:=hb;exact⟨_,Rd.bool,fun ho hx hy ht=>by simp[Yd,execOp,ho,hx,hy,hg,binOp,Op.equal,Op.maxDepth,run_equalIn_bool' (P:=P) _ _ _ _ _ ht]⟩
theorem T6{c x y:Operand}(ho:o.op=.pick c x y){cb p q:Bool}(hc:a.eval c=.bool cb)(hx:cb=true->a.eval x=.bool p)(hy:cb=false->a.eval y=.bool q) :
  Yd P o a w (.bool (mi cb p q)):=by
 cases cb
 ·simp[Yd,execOp,ho,hc,hy,asBool,mi]
 ·simp[Yd,execOp,ho,hc,hx,asBool,mi]
theorem Uw{x:Operand}{t:TypeId}(ho:o.op=.unOp .not t x){b:Bool}(hx:a.eval x=.bool b):Yd P o a w (.bool (!b)):=by
 simp[Yd,execOp,ho,hx,Op.unary]
theorem gT{k:IntKind}{n:Int}(h:k.has n):k.wrap n=n:=by
 obtain⟨h1,h2⟩:=h;cases k<;>simp[IntKind.min,IntKind.max,IntKind.wrap,IntKind.signed,IntKind.bits] at *<;>(first | omega | (split<;>omega))
theorem Sm{s d:TypeId}{x:Operand}(ho:o.op=.convert s d x){k0 k1 k:IntKind}(h1:P.underlying s=some (.int k1))(h2:P.underlying d=some (.int k)){n:Int}(hx:a.eval x=.int k0 n)(hn:k0.has n) :
  Yd P o a w (.int k (if k0=k then n else k.wrap n))/\k.has (if k0=k then n else k.wrap n):=by
 have:Yd P o a w (.int k (k.wrap n)):=by simp[Yd,execOp,ho,hx,convert,run_underlying h1,run_underlying h2,Conv.intToInt]
 by_cases hk:k0=k
 ·subst hk;simp only[if_true];rw[gT hn] at this;exact⟨this,hn⟩
 ·simp only[hk,if_false];exact⟨this,tn _ _⟩
def vo:Bool->Builtin
 | true=>.max
 | false=>.min
theorem VD{mx:Bool}{k:IntKind}{m n:Int}{ts:Array TypeId}{x y:Operand}(ho:o.op=.call { callee:=.builtin (vo mx),args:=#[x,y],argTypes:=ts })(hx:a.eval x=.int k m)(hy:a.eval y=.int k n):Yd P o a w (.int k (ly mx m n)):=by
 cases mx
 ·simp only[vo] at ho
  have e:(if n<m then n else m)=min m n:=by split<;>omega
  simp[Yd,execOp,ho,hx,hy,resolve,invoke,builtin,Builtin.min_,Builtin.min2,ly,e]
 ·simp only[vo] at ho
  have e:(if m<n then n else m)=max m n:=by split<;>omega
  simp[Yd,execOp,ho,hx,hy,resolve,invoke,builtin,Builtin.max_,Builtin.max2,ly,e]
theorem Ur{mx:Bool}{k:IntKind}{m n:Int}(hm:k.has m)(hn:k.has n):k.has (ly mx m n):=by
 obtain⟨h1,h2⟩:=hm;obtain⟨h3,h4⟩:=hn;cases mx<;>exact⟨by simp only[ly];omega,by simp only[ly];omega⟩
theorem Ny{t e:TypeId}{x:Operand}(ho:o.op=.call { callee:=.builtin .len,args:=#[x],argTypes:=#[t] })(ht:P.underlying t=some (.slice e)){p:Option Addr}{n c:Nat}
  (hx:a.eval x=.slice p n c):Yd P o a w (.int .i64 n):=by
 simp[Yd,execOp,ho,hx,resolve,invoke,builtin,Builtin.len_,run_underlying ht,goInt]
theorem PC{t:TypeId}{x:Operand}(ho:o.op=.call { callee:=.builtin .len,args:=#[x],argTypes:=#[t] })(ht:P.underlying t=some .string){l:List UInt8}
  (hx:a.eval x=.string ⟨l.toArray⟩):Yd P o a w (.int .i64 l.length):=by
 simp[Yd,execOp,ho,hx,resolve,invoke,builtin,Builtin.len_,run_underlying ht,goInt];rfl
theorem H9{t e:TypeId}{x i:Operand}(ho:o.op=.indexAddr t x i)(ht:P.underlying t=some (.slice e)){sz:Nat}{inf:TypeInfo}(hi:P.info? e=some inf)(hsz:inf.size=sz)
  {b off n c:Nat} (hx:a.eval x=.slice (some ⟨b,off,none⟩) n c) {k:IntKind} {m:Int} (hm:a.eval i=.int k m) (h0 : 0<=m) (h1:m<n):Yd P o a w (.pointer (some ⟨b,off+m.toNat*sz,none⟩)):=by
 have hadd:(⟨b,off,none⟩:Addr).add (m.toNat*sz)=⟨b,off+m.toNat*sz,none⟩:=by
  unfold Addr.add;split<;>simp_all
 simp[Yd,execOp,ho,hx,hm,Instr.indexAt,asIntOf,run_underlying ht,h0,h1,sizeOf,typeInfo,hi,hsz,hadd]
theorem sv{t:TypeId}(h:jm P t=true):(isAgg t).run P w=.ok false w:=by
 unfold jm at h;cases hu:P.underlying t with
 | none=>simp[hu] at h
 | some d=>cases d<;>simp[hu] at h<;>simp[isAgg,run_underlying hu]
theorem yJ{t:TypeId}(h:mI P t=true):(isAgg t).run P w=.ok true w:=by
 unfold mI at h;cases hu:P.underlying t with
 | none=>simp[hu] at h
 | some d=>cases d<;>simp[hu] at h<;>simp[isAgg,run_underlying hu]
theorem sA{t:TypeId}{n:Nat}(h:dv P t n=true):(sizeOf t).run P w=.ok n w:=by
 unfold dv at h;cases hi:P.info? t with
 | none=>simp[hi] at h
 | some i=>simp[hi] at h;simp[sizeOf,typeInfo,hi,h]
theorem Vz{t:TypeId}{x:Operand}(ho:o.op=.load t x)(ht:jm P t=true){b off:Nat}(hx:a.eval x=.pointer (some ⟨b,off,none⟩)){v:Value}(hc:w.cell? ⟨b,off,none⟩=some v):Yd P o a w v:=by
 simp[Yd,execOp,ho,hx,Instr.loadAt,Instr.sureAddr,loadVar,sv ht,hc]
theorem UK{t:TypeId}{x:Operand}{n:Nat}(ho:o.op=.load t x)(ht:mI P t=true)(hn:dv P t n=true){b off:Nat}(hx:a.eval x=.pointer (some ⟨b,off,none⟩)){cs:List Value}
  (hl:cs.length=n) (hc:∀j v,cs[j]?=some v->w.cell? ⟨b,off+j,none⟩=some v):Yd P o a w (.agg cs.toArray):=by
 have h:=run_loadCells_list (P:=P) w ⟨b,off,none⟩ cs (fun j v hj=>by
  have hadd:(⟨b,off,none⟩:Addr).add j=⟨b,off+j,none⟩:=by unfold Addr.add;split<;>simp_all
  rw[hadd];exact hc j v hj)
 simp[Yd,execOp,ho,hx,Instr.loadAt,Instr.sureAddr,loadVar,yJ ht,sA hn,<-hl,h]
theorem uv{t:TypeId}{x:Operand}{f:Nat}(ho:o.op=.fieldAddr t x f){off:Nat}{ft:TypeId}(hf:gY P t f=some (off,ft))(hz:dv P ft 0=false)(hs:(P.info? ft).isSome=true){b k:Nat}
  (hx:a.eval x=.pointer (some ⟨b,k,none⟩)):Yd P o a w (.pointer (some ⟨b,k+off,none⟩)):=by
 unfold gY at hf;cases hu:P.underlying t with
 | none=>simp[hu] at hf
 | some d =>
  cases d<;>simp[hu] at hf;obtain⟨fl,hfl,h1,h2⟩:=hf;subst h2;subst h1;cases hi:P.info? fl.type with
  | none=>simp[hi] at hs
  | some i =>
   have hne:¬i.size=0:=by simpa[dv,hi] using hz
   have hadd:(⟨b,k,none⟩:Addr).add fl.offset=⟨b,k+fl.offset,none⟩:=by unfold Addr.add;split<;>simp_all
   simp[Yd,execOp,ho,hx,Instr.fieldAt,run_underlying hu,hfl,Instr.sureAddr,fieldPlace,sizeOf,typeInfo,hi,hne,hadd]
theorem yY{t:TypeId}(ht:jm P t=true){cs:Array Value}{off:Nat}(h:off<cs.size):(part t cs off).run P w=.ok (cs.getD off undef) w:=by
 simp[part,sv ht,h]
theorem Qu{t:TypeId}{n:Nat}(ht:mI P t=true)(hn:dv P t n=true){cs:Array Value}{off:Nat}:(part t cs off).run P w=.ok (.agg (cs.extract off (off+n))) w:=by
 simp[part,yJ ht,sA hn]
theorem Vd{t:TypeId}{x:Operand}{f:Nat}(ho:o.op=.field t x f){off:Nat}{ft:TypeId}(hf:gY P t f=some (off,ft))(hc:jm P ft=true){cs:Array Value}
  (hx:a.eval x=.agg cs) (hoff:off<cs.size):Yd P o a w (cs.getD off undef):=by
 unfold gY at hf;cases hu:P.underlying t with
 | none=>simp[hu] at hf
 | some d =>
  cases d<;>simp[hu] at hf;obtain⟨fl,hfl,h1,h2⟩:=hf;subst h2;subst h1;simp[Yd,execOp,ho,hx,Instr.field,run_underlying hu,hfl,asAgg,yY hc hoff]
theorem TB{t:TypeId}{x:Operand}{f:Nat}(ho:o.op=.field t x f){off n:Nat}{ft:TypeId}(hf:gY P t f=some (off,ft))(hc:mI P ft=true)(hn:dv P ft n=true){cs:Array Value}
  (hx:a.eval x=.agg cs):Yd P o a w (.agg (cs.extract off (off+n))):=by
 unfold gY at hf;cases hu:P.underlying t with
 | none=>simp[hu] at hf
 | some d =>
  cases d<;>simp[hu] at hf;obtain⟨fl,hfl,h1,h2⟩:=hf;subst h2;subst h1;simp[Yd,execOp,ho,hx,Instr.field,run_underlying hu,hfl,asAgg,Qu hc hn]
theorem R3{t:TypeId}{x i:Operand}(ho:o.op=.index t x i)(ht:P.underlying t=some .string){l:List UInt8}(hx:a.eval x=.string ⟨l.toArray⟩){k:IntKind}{m:Int}(hm:a.eval i=.int k m)
  (h0 : 0<=m) (h1:m<l.length):Yd P o a w (.int .u8 (l.getD m.toNat 0).toNat)/\IntKind.u8.has ((l.getD m.toNat 0).toNat:Int):=by
 have hlt:m.toNat<l.length:=by omega
 have hs:(⟨l.toArray⟩:ByteArray)[m.toNat]?=some (l.getD m.toNat 0):=by
  show(if h:m.toNat<(⟨l.toArray⟩:ByteArray).size then some _ else none)=_;rw[dif_pos (show m.toNat<(⟨l.toArray⟩:ByteArray).size from hlt)];simp[List.getD,hlt];rfl
 refine⟨?_,?_⟩
 ·simp[Yd,execOp,ho,hx,hm,Instr.index,asIntOf,run_underlying ht,h0,hs]
 ·generalize l.getD m.toNat 0=c
  have:=c.toNat_lt;constructor<;>simp[IntKind.min,IntKind.max,IntKind.signed,IntKind.bits]<;>omega
theorem UQ{x:Operand}{i:Nat}(ho:o.op=.extract x i){cs:Array Value}(hx:a.eval x=.tuple cs)(hi:i<cs.size):Yd P o a w (cs.getD i undef):=by
 simp[Yd,execOp,ho,hx,Instr.extract,hi]
theorem tL{x:Operand}(ho:o.op=.nilCheck x){p:Addr}(hx:a.eval x=.pointer (some p)):Yd P o a w (.pointer (some p)):=by
 simp[Yd,execOp,ho,hx]
theorem HF{x:Operand}(ho:o.op=.nilCheck x){f:FuncId}{l r:Array Value}(hx:a.eval x=.func (.func f) l r):Yd P o a w (.func (.func f) l r):=by
 simp[Yd,execOp,ho,hx]
end
end Go.D3
namespace Go.D3
open Go
section
variable{w:World}{ct:Nat->D}{vl:Nat->Value}{A:Nat->Prop}
def Reach(w:World)(ct:Nat->D)(vl:Nat->Value)(k:Nat)(p:Path)(v:Value)(y:D):Prop :=
 ∀q,y.has q->(ct k).aX (p++q)/\aO w (vl k) (ct k) (p++q)=aO w v y q/\(q≠[]->aF w (vl k) (ct k) (p++q)=aF w v y q)
theorem Reach.aZ{k:Nat}{p:Path}{v:Value}{y:D}(h:Reach w ct vl k p v y){i off:Nat}(hk:y.jY i off){u:Value}(hu:cC w v y i off=some u):Reach w ct vl k (p++[(i,off)]) u (y.aZ i off):=by
 intro q hq;obtain⟨h1,h2,h3⟩:=h ((i,off)::q) ⟨hk,hq⟩;rw[List.append_assoc,List.singleton_append];refine⟨h1,?_,fun hne=>?_⟩
 ·rw[h2];simp only[aO,hu,Option.bind_some]
 ·rw[h3 (by simp)]
  cases q with
  | nil=>exact absurd rfl hne
  | cons t q=>simp only[aF,hu,Option.bind_some]
theorem Reach.root{k:Nat}{x:D}{F:Nat->Prop}(hc:ct k=.o x)(h:an w A (vl k) x F):Reach w ct vl k [] (vl k) x:=by
 intro q hq;rw[List.nil_append,hc];exact⟨hq,(gh h w q).1,fun _=>(gh h w q).2⟩
theorem Reach.part{R:Value->D->Prop}{k:Nat}{F:Nat->Prop}(h:aJ w A R (vl k) F (ct k)){p:Path}(hp:(ct k).aX p)(hne:p≠[]){u:Value}(hu:aO w (vl k) (ct k) p=some u){F':Nat->Prop}
  (hlv:br (ct k) p=true->(ct k).at p=.o ((ct k).bj p)) (hown:an w A u ((ct k).bj p) F'):Reach w ct vl k p u ((ct k).bj p):=by
 intro q hq
 have hval:∀q,aO w u ((ct k).at p) q=aO w u ((ct k).bj p) q/\aF w u ((ct k).at p) q=aF w u ((ct k).bj p) q:=by
  intro q;by_cases hl:(ct k).at p=.o ((ct k).bj p)
  ·rw[hl];exact gh hown w q
  ·have:(ct k).at p=(ct k).bj p:=by
    unfold D.bj at hl|-
    generalize(ct k).at p=z at hl|-
    cases z<;>first | rfl | (exfalso;exact hl rfl)
   rw[this];exact⟨rfl,rfl⟩
 refine⟨?_,?_,fun hq'=>?_⟩
 ·revert hp hlv hq
  unfold D.bj;intro hp hlv hq;cases hc:ct k<;>rw[hc] at hp hlv hq<;>try exact hp.elim
  case row z l=>exact absurd hp hne
  case o x =>
   rw[hc] at h;rw[D.mz h hne] at hq
   have hx:(x.at p).un=x.at p:=by
    obtain⟨_,_,_,g1,g2,_⟩:=an.splitAt p h hp;exact g2.un.1
   rw[hx] at hq;exact(lG x p q).2 ⟨hp,hq⟩
  case box l =>
   cases p with
   | nil=>exact absurd rfl hne
   | cons s p =>
    obtain⟨i,off⟩:=s;obtain⟨rfl,ho,hp⟩:=hp;have hk:D.aZ (.box l) 0 off=l.getD off .dead:=rfl;cases p with
    | nil =>
     cases q with
     | nil=>exact⟨rfl,ho,trivial⟩
     | cons t q =>
      have hat:=hlv rfl;have e:(D.box l).at [(0,off)]=l.getD off .dead:=rfl;rw[e] at hat hq;refine⟨rfl,ho,?_⟩;rw[hat];exact hq
    | cons t p =>
     simp only at hp;split at hp
     ·rename_i y hy
      rw[hc] at h;obtain⟨_,b,cs,e,Fs,h1,h2,h3,h4,h5,h6,h7⟩:=h
      have hget:l[off]?=some (.o y):=by
       rw[List.getD_eq_getElem?_getD,List.getElem?_eq_getElem ho] at hy;rw[List.getElem?_eq_getElem ho];simpa using hy
      have hown':=h4 off _ hget;simp only[bY] at hown';have e:(D.box l).at ((0,off)::t::p)=y.at (t::p):=by rw[D.at,hk,hy,D.mz hown' (by simp)]
      rw[e] at hq
      have hx:(y.at (t::p)).un=y.at (t::p):=by
       obtain⟨_,_,_,g1,g2,_⟩:=an.splitAt (t::p) hown' hp;exact g2.un.1
      rw[hx] at hq;refine⟨rfl,ho,?_⟩;rw[hy];exact(lG y (t::p) q).2 ⟨hp,hq⟩
     ·exact hp.elim
 ·rw[Ng,hu,Option.bind_some];exact(hval q).1
 ·rw[qi w p q _ _ hq',hu,Option.bind_some];exact(hval q).2
theorem yO(k:Nat)(p:Path):∀(l:List D)(j n:Nat),(jn k p j l)[n]?=(l[n]?).map (de k (p++[(0,j+n)]))
 | [],j,n=>by simp[jn]
 | x::r,j,0=>by simp[jn]
 | x::r,j,n+1=>by
  simp only[jn,List.getElem?_cons_succ,yO k p r (j+1) n];rw[show j+1+n=j+(n+1) by omega]
theorem xV(k:Nat)(p:Path):∀(l:List D)(j:Nat),(jn k p j l).length=l.length
 | [],_=>rfl
 | x::r,j=>by simp[jn,xV k p r]
theorem HQ(c:D)(p:Path)(s t:Nat×Nat):br c (p++[s]++[t])=false:=by
 have:∃a b r,p++[s]++[t]=a::b::r:=by
  cases p with
  | nil=>exact⟨s,t,[],rfl⟩
  | cons a p=>cases p with
   | nil=>exact⟨a,s,[t],rfl⟩
   | cons b p=>exact⟨a,b,p++[s]++[t],rfl⟩
 obtain⟨a,b,r,h⟩:=this;rw[h];cases c<;>rfl
theorem zL{k:Nat}(y:D):∀{p:Path}{v:Value}{F:Nat->Prop},an w A v y F->(br (ct k) p=true->((ct k).at p).gS=true)->(∀s,br (ct k) (p++[s])=false)->Reach w ct vl k p v y->Pl w A (aj w ct vl) v (de k p y):=by
 induction y using D.ind with
 | int a n=>intro p v F h _ _ _;cases h with | int h=>exact .rd (.int h)
 | bool b=>intro p v F h _ _ _;cases h;exact .rd .bool
 | str s=>intro p v F h _ _ _;cases h with | str h=>exact .rd (.str h)
 | bp=>intro p v F h _ _ _;cases h;exact .rd .bp
 | fn f caps _=>intro p v F h _ _ _;cases h;exact .rd (.fn rfl (fun j x hx=>by simp at hx))
 | vw x _=>intro p v F h _ _ _;cases h with | vw h=>exact .rd h
 | slice z l _ _ =>
  intro p v F h hS hN hr;obtain⟨h1,h2,_⟩:=hr [] trivial;rw[List.append_nil] at h1 h2;refine .ref ⟨⟨h1,hS⟩,h2,?_⟩;cases h with
  | nil=>exact .inl ⟨_,_,_,rfl⟩
  | slice=>exact .inl ⟨_,_,_,rfl⟩
 | mp ks vs _ _ =>
  intro p v F h hS hN hr;obtain⟨h1,h2,_⟩:=hr [] trivial;rw[List.append_nil] at h1 h2;refine .ref ⟨⟨h1,hS⟩,h2,?_⟩;cases h with
  | mp=>exact .inr ⟨_,rfl⟩
 | bK=>intro p v F h _ _ _;cases h;exact .rd .bK
 | bd=>intro p v F h _ _ _;cases h;exact .rd .bd
 | bQ s p=>intro p v F h _ _ _;exact Pl.dead
 | er n=>intro p v F h _ _ _;exact Pl.dead
 | bw t x _=>intro p v F h _ _ _;cases h with | bw h=>exact .rd (.bw h)
 | ptr l _ =>
  intro p v F h hS hN hr;cases l with
  | nil=>exact Pl.dead
  | cons x r =>
   have hun:=h.un.1;obtain⟨h1,_,h3⟩:=hr [(0,0)] ⟨by unfold D.jY;rw[hun];exact⟨rfl,by simp⟩,trivial⟩;have h3:=h3 (by simp);simp only[de];cases h with
   | ptr Fs hb hs hr' hF hfs hdis =>
    refine .ref ⟨h1,_,h3,?_⟩;simp only[Nat.add_zero]
 | agg l ih =>
  intro p v F h hS hN hr;cases h with
  | @agg cs _ _ Fs hs hr' hfs hdis =>
   refine .agg (by rw[xV];exact hs) fun j x hx=>?_
   rw[yO,Option.map_eq_some_iff] at hx;obtain⟨y,hy,rfl⟩:=hx;obtain⟨hj,hy'⟩:=List.getElem?_eq_some_iff.1 hy;rw[Nat.zero_add]
   have hk:(D.agg l).aZ 0 j=y:=by
    show l.getD j .dead=y;rw[List.getD_eq_getElem?_getD,hy];rfl
   have:=Reach.aZ (i:=0) (off:=j) (u:=cs.getD j undef) hr ⟨rfl,hj⟩ rfl;rw[hk] at this;exact ih y (List.mem_of_getElem? hy) (hr' j y hy) (fun hl=>by rw[hN] at hl;cases hl) (fun s=>HQ _ _ _ s) this
 | au l ih =>
  intro p v F h hS hN hr;cases h with
  | @au cs _ _ Fs hs hr' hfs hdis =>
   refine .au (by rw[xV];exact hs) fun j x hx=>?_
   rw[yO,Option.map_eq_some_iff] at hx;obtain⟨y,hy,rfl⟩:=hx;obtain⟨hj,hy'⟩:=List.getElem?_eq_some_iff.1 hy;rw[Nat.zero_add]
   have hk:(D.au l).aZ 0 j=y:=by
    show l.getD j .dead=y;rw[List.getD_eq_getElem?_getD,hy];rfl
   have:=Reach.aZ (i:=0) (off:=j) (u:=cs.getD j undef) hr ⟨rfl,hj⟩ rfl;rw[hk] at this;exact ih y (List.mem_of_getElem? hy) (hr' j y hy) (fun hl=>by rw[hN] at hl;cases hl) (fun s=>HQ _ _ _ s) this
 | _=>intro p v F h _ _ _;exact Pl.dead
def ca(w:World)(A:Nat->Prop)(R:Value->D->Prop)(v:Value)(d:D):Prop:=(d.gate=true->Pl w A R v d.core)/\(d.gate=false->v=undef)
theorem SO{d:D}(h:∀g x,d≠.when g x):d.core=d/\d.gate=true:=by
 cases d<;>first | exact⟨rfl,rfl⟩ | exact absurd rfl (h _ _)
theorem Pl.ou{R:Value->D->Prop}{v:Value}{d:D}(h:Pl w A R v d)(hR:∀v g x,¬R v (.when g x)):ca w A R v d:=by
 have:∀g x,d≠.when g x:=by
  rintro g x rfl;cases h with
  | rd h=>cases h
  | ref h=>exact hR _ _ _ h
 obtain⟨h1,h2⟩:=SO this;exact⟨fun _=>by rw[h1];exact h,fun hh=>by rw[h2] at hh;cases hh⟩
theorem nu(v:Value)(g:Bool)(x:D):¬aj w ct vl v (.when g x):=fun h=>h
theorem lY{k:Nat}{F:Nat->Prop}(h:aJ w A (aj w ct vl) (vl k) F (ct k)):ca w A (aj w ct vl) (vl k) (cf k (ct k)):=by
 cases hc:ct k<;>rw[hc] at h<;>try exact Pl.ou h nu
 case o x=>exact Pl.ou (zL x h (fun hl=>by rw[hc] at hl;cases hl) (fun s=>by rw[hc];rfl) (Reach.root hc h)) nu
 case box l =>
  obtain⟨h0,b,cs,e,Fs,h1,h2,h3,h4,h5,h6,h7⟩:=h;refine Pl.ou (.ref ⟨?_,⟨b,0,none⟩,?_,h1⟩) nu
  ·rw[hc];exact⟨rfl,h0,trivial⟩
  ·rw[hc,h1];rfl
 case row z l =>
  refine Pl.ou (.ref ⟨?_,?_,?_⟩) nu
  ·rw[hc];exact⟨rfl,fun hl=>by cases hl⟩
  ·rfl
  ·obtain⟨b,sz,cs,e,h1,_⟩:=h
   exact .inl ⟨_,_,_,h1⟩
 case when g c =>
  obtain⟨h1,h2⟩:=h;have key:∀(c:D),(g=true->Pl w A (aj w ct vl) (vl k) c)->(g=true->ca w A (aj w ct vl) (vl k) c):=fun c h hg=>(h hg).ou nu
  have h1:=key c h1;show ca w A _ _ (.when g c);cases g with
  | true=>exact⟨fun hg=>(h1 rfl).1 (by simpa[D.gate] using hg),fun hg=>(h1 rfl).2 (by simpa[D.gate] using hg)⟩
  | false=>exact⟨fun hg=>by simp[D.gate] at hg,fun _=>h2 rfl⟩
theorem G8{c:D}{p:Path}(hp:p≠[])(s:Nat×Nat):br c (p++[s])=false:=by
 cases p with
 | nil=>exact absurd rfl hp
 | cons a p=>cases p<;>cases c<;>rfl
theorem Ag{k:Nat}{F:Nat->Prop}(h:aJ w A (aj w ct vl) (vl k) F (ct k)){p:Path}(hp:(ct k).aX p)(hne:p≠[]){a:Addr}(ha:aF w (vl k) (ct k) p=some a) :
  ∃u,w.cell? a=some u/\a.spot=none/\Pl w A (aj w ct vl) u (nR k (ct k) p):=by
 obtain⟨u,F1,F2,g1,g2,g3,g4,g5,g6,g7⟩:=h.splitAt hp hne;obtain⟨j1,j2,j3,_⟩:=g7 a ha;refine⟨u,j3,j2,?_⟩;unfold nR fw at *;cases hl:br (ct k) p with
 | true =>
  rw[hl] at g2;simp only at g2|-
  generalize hc:(ct k).at p=c at g2;cases c<;>try exact g2
  all_goals try exact g2.elim
  case o x =>
   have hd:(ct k).bj p=x:=by unfold D.bj;rw[hc];rfl
   have:=Reach.part h hp hne g1 (fun _=>by rw[hd,hc]) (by rw[hd];exact g2);rw[hd] at this;exact zL x g2 (fun _=>by rw[hc];rfl) (G8 hne) this
 | false =>
  rw[hl] at g2;simp only at g2|-
  have hd:(ct k).bj p=(ct k).at p:=g2.un.1;have:=Reach.part h hp hne g1 (fun hh=>by rw[hl] at hh;cases hh) (by rw[hd];exact g2);rw[hd] at this;exact zL _ g2 (fun hh=>by rw[hl] at hh;cases hh) (G8 hne) this
theorem kN{k:Nat}{F:Nat->Prop}(h:aJ w A (aj w ct vl) (vl k) F (ct k)){p:Path}{v:Value}(hr:aj w ct vl v (.sub k p)) :
  (∃z l,ct k=.row z l/\p=[]/\v=vl k)\/(∃F',an w A v ((ct k).bj p) F'/\(∀b,F' b->F b)/\Reach w ct vl k p v ((ct k).bj p)/\(∀z l,ct k≠.row z l)):=by
 obtain⟨⟨h1,hS⟩,h2,hsl⟩:=hr;cases p with
 | nil =>
  simp only[aO,Option.some.injEq] at h2;cases hc:ct k<;>rw[hc] at h h1<;>try exact h1.elim
  case o x =>
   refine .inr ⟨F,by rw[<-h2];exact h,fun _ h=>h,?_,by simp⟩;rw[<-h2];exact Reach.root hc h
  case box l =>
   obtain⟨_,b,cs,e,Fs,h3,_⟩:=h;rw[<-h2,h3] at hsl;rcases hsl with⟨_,_,_,hh⟩ | ⟨_,hh⟩<;>cases hh
  case row z l=>exact .inl ⟨z,l,rfl,rfl,h2.symm⟩
 | cons s p =>
  obtain⟨u,F1,F2,g1,g2,g3,g4,g5,g6,g7⟩:=h.splitAt h1 (by simp);rw[g1] at h2;injection h2 with h2
  subst h2
  have hrow:∀z l,ct k≠.row z l:=by
   intro z l hc;rw[hc] at h1;exact absurd h1 (by simp[D.aX])
  unfold fw at g2;cases hl:br (ct k) (s::p) with
  | false =>
   rw[hl] at g2;simp only at g2;have hd:(ct k).bj (s::p)=(ct k).at (s::p):=g2.un.1;have hown:an w A u ((ct k).bj (s::p)) F1:=by rw[hd];exact g2
   exact .inr ⟨F1,hown,g3,Reach.part h h1 (by simp) g1 (fun hh=>by rw[hl] at hh;cases hh) hown,hrow⟩
  | true =>
   rw[hl] at g2;simp only at g2;obtain⟨x,hat⟩:=zz (hS hl);rw[hat] at g2;have hd:(ct k).bj (s::p)=x:=by unfold D.bj;rw[hat];rfl
   have hown:an w A u ((ct k).bj (s::p)) F1:=by rw[hd];exact g2
   exact .inr ⟨F1,hown,g3,Reach.part h h1 (by simp) g1 (fun _=>by rw[hd,hat]) hown,hrow⟩
end
end Go.D3
namespace Go.D3
open Go
def cU:List UInt8->List UInt8->Bool
 | [],[]=>true
 | a::l,b::r=>a == b&&cU l r
 | _,_=>false
def aH(ds:List (Option Nat))(tr:List Nat)(x:Operand)(y:X):Bool :=
 match x,y with
 | .tmp t,.t i=>decide (ds[i]?=some (some t))
 | .tmp t,.v j=>decide (tr[j]?=some t)
 | .const (.int k n),.i m=>decide (k=.i64)&&decide (n=m)&&rl k n
 | .const (.int k n),.k (.int k' m)=>decide (k=k')&&decide (n=m)&&rl k n
 | .const (.bool b),.k (.bool c)=>b == c
 | .const (.string s),.k (.str l)=>cU s.data.toList l&&decide (l.length<=65536)
 | .const (.slice none 0 0),.k (.aB _)=>true
 | .const (.pointer none),.k .bp=>true
 | .func f,.k (.fn f' [])=>f == f'
 | .global g,.g n=>g == n&&(gl n).isSome
 | .const .nilIface,.k .bd=>true
 | _,_=>false
def eB(ds:List (Option Nat))(tr:List Nat):List Operand->List X->Bool
 | [],[]=>true
 | x::l,y::r=>aH ds tr x y&&eB ds tr l r
 | _,_=>false
def og(ds:List (Option Nat))(tr:List Nat):Option Operand->Option X->Bool
 | none,none=>true
 | some x,some y=>aH ds tr x y
 | _,_=>false
def ib(v:Value)(d:D):Bool :=
 match v,d with
 | .int k n,.int k' m=>decide (k=k')&&decide (n=m)&&rl k n
 | .bool b,.bool c=>b == c
 | .string s,.str []=>s.data.toList.isEmpty
 | .nilFunc,.dead=>true
 | .slice none 0 0,.slice _ []=>true
 | .pointer none,.bp=>true
 | .map none,.bK=>true
 | .nilIface,.bd=>true
 | _,_=>false
def ph:List Value->List D->Bool
 | [],[]=>true
 | v::l,d::r=>ib v d&&ph l r
 | _,_=>false
def l7(P:Program)(t:TypeId)(zs:List D):Bool :=
 match P.info? t with
 | some i=>match i.zero with
  | some z=>ph z.cells.toList zs&&decide (i.size=zs.length)
  | none=>false
 | none=>false
def kT:D->D
 | .aB z=>.slice z []
 | d=>d
def ma(P:Program)(t:TypeId)(k:Nat):Bool:=match P.underlying t,k with
 | some (.int _),0=>true
 | some .bool,1=>true
 | some .string,2=>true
 | _,_=>false
def eqFields(P:Program):Nat->List Field->List Nat->Bool
 | _,[],[]=>true
 | i,f::r,k::ks=>f.name != "_"&&decide (f.offset=i)&&ma P f.type k&&eqFields P (i+1) r ks
 | _,_,_=>false
def nL(P:Program)(ds:List (Option Nat))(tr:List Nat)(t:TypeId):List (Nat×Operand)->List (Nat×Nat×X)->Bool
 | [],[]=>true
 | (i,x)::l,(off,n,y)::r=>(match gY P t i with
     | some (o,ft)=>decide (o=off)&&dv P ft n
     | none=>false)&&aH ds tr x y&&nL P ds tr t l r
 | _,_=>false
def F4(P:Program)(t:TypeId):Bool:=match P.underlying t with
 | some (.struct fs)=>fs.toList.all fun f=>(P.info? f.type).isSome
 | _=>false
def iU(ds:List (Option Nat))(tr:List Nat):List (Nat×Operand)->List (Nat×X)->Bool
 | [],[]=>true
 | (i,x)::l,(j,y)::r=>i == j&&aH ds tr x y&&iU ds tr l r
 | _,_=>false
def tY:Op->Option Operand
 | .move x=>some x
 | .assign x=>some x
 | _=>none
def AB:Op->Option (Operand×Operand×Operand)
 | .pick c a b=>some (c,a,b)
 | _=>none
def nS:Op->Option (BinOp×TypeId×Operand×Operand)
 | .binOp op t x y _=>some (op,t,x,y)
 | _=>none
def AH:Op->Option Operand
 | .unOp .not _ x=>some x
 | _=>none
def qW:Op->Option (TypeId×TypeId×Operand)
 | .convert s d x=>some (s,d,x)
 | _=>none
def kI(b:Builtin):Op->Option (List Operand×List TypeId)
 | .call c=>match c.callee with
  | .builtin b'=>if b=b' then some (c.args.toList,c.argTypes.toList) else none
  | _=>none
 | _=>none
def nM:Op->Option (FuncId×List Operand)
 | .call c=>match c.callee with
  | .value (.func f)=>some (f,c.args.toList)
  | _=>none
 | _=>none
def AT:Op->Option (Operand×List Operand)
 | .call c=>match c.callee with
  | .value x=>some (x,c.args.toList)
  | _=>none
 | _=>none
def Aq:Op->Option (TypeId×Operand×Operand)
 | .indexAddr t x i=>some (t,x,i)
 | _=>none
def um:Op->Option (TypeId×Operand)
 | .load t x=>some (t,x)
 | _=>none
def qM:Op->Option (TypeId×Operand×Operand)
 | .store t x y=>some (t,x,y)
 | _=>none
def A7:Op->Option (TypeId×Operand×Nat)
 | .fieldAddr t x f=>some (t,x,f)
 | _=>none
def uA:Op->Option (TypeId×Operand×Nat)
 | .field t x f=>some (t,x,f)
 | _=>none
def AV:Op->Option (TypeId×Array (Nat×Operand))
 | .build t ps=>some (t,ps)
 | _=>none
def Am:Op->Option (TypeId×Operand×Operand)
 | .index t x i=>some (t,x,i)
 | _=>none
def AL:Op->Option (Operand×Nat)
 | .extract x i=>some (x,i)
 | _=>none
def A3:Op->Option Operand
 | .nilCheck x=>some x
 | _=>none
def uE:Op->Option (TypeId×Operand)
 | .box t x=>some (t,x)
 | _=>none
def zT:Op->Option TypeId
 | .alloc t=>some t
 | _=>none
def AE:Op->Option (TypeId×Operand×Operand)
 | .makeSlice t x y=>some (t,x,y)
 | _=>none
def ud:Op->Option (TypeId×Nat×Array (Nat×Operand))
 | .buildSlice t n ps=>some (t,n,ps)
 | _=>none
def tP:Op->Option (TypeId×Operand×Option Operand×Option Operand)
 | .slice t x lo hi none=>some (t,x,lo,hi)
 | _=>none
def A4:Op->Option TypeId
 | .makeMap t none=>some t
 | _=>none
def zI:Op->Option (TypeId×Operand×Operand×Bool)
 | .lookup t x i ok=>some (t,x,i,ok)
 | _=>none
def AZ:Op->Option (TypeId×Operand×Operand×Operand)
 | .mapUpdate t m k v=>some (t,m,k,v)
 | _=>none
def pQ(P:Program)(t:TypeId):Option (TypeId×TypeId):=match P.underlying t with
 | some (.map k e)=>some (k,e)
 | _=>none
def zeroV(P:Program)(t:TypeId)(d:D):Bool:=match P.info? t with
 | some i=>match i.zero with
  | some z=>ib z d&&d.cF
  | none=>false
 | none=>false
def AK:Op->Option (TypeId×Operand)
 | .range t x=>some (t,x)
 | _=>none
def A2:Op->Option Operand
 | .next x true=>some x
 | _=>none
def AO:Op->Option (FuncId×Array Operand×Array Operand)
 | .makeFunc (.func f) first caps=>some (f,first,caps)
 | _=>none
def aY(P:Program)(ds:List (Option Nat))(tr:List Nat)(o:Oper):Kp->Bool
 | .mv y | .bo y | .bP _ y | .jA _ y | .jD _ y=>match tY o.op with
  | some x=>aH ds tr x y
  | none=>false
 | .pick c a b=>match AB o.op with
  | some (c',a',b')=>aH ds tr c' c&&aH ds tr a' a&&aH ds tr b' b
  | none=>false
 | .bin op x y=>match nS o.op with
  | some (op',_,x',y')=>decide (op=op')&&aH ds tr x' x&&aH ds tr y' y
  | none=>false
 | .shr x y=>match nS o.op with
  | some (op',_,x',y')=>decide (op'=.shr)&&aH ds tr x' x&&aH ds tr y' y
  | none=>false
 | .pK op x y=>match nS o.op with
  | some (op',t,x',y')=>decide (op=op')&&aH ds tr x' x&&aH ds tr y' y&&(match P.underlying t with | some .bool=>true | _=>false)
  | none=>false
 | .not x=>match AH o.op with
  | some x'=>aH ds tr x' x
  | none=>false
 | .conv k x=>match qW o.op with
  | some (s,d,x')=>aH ds tr x' x&&(match P.underlying s,P.underlying d with | some (.int _),some (.int k')=>decide (k=k') | _,_=>false)
  | none=>false
 | .len x=>match kI .len o.op with
  | some ([x'],[t])=>aH ds tr x' x&&(iG P t).isSome
  | _=>false
 | .mm mx x y=>match kI (vo mx) o.op with
  | some ([x',y'],_)=>aH ds tr x' x&&aH ds tr y' y
  | _=>false
 | .pA x=>match kI .len o.op with
  | some ([x'],[t])=>aH ds tr x' x&&(match P.underlying t with | some .string=>true | _=>false)
  | _=>false
 | .az sz x i=>match Aq o.op with
  | some (t,x',i')=>aH ds tr x' x&&aH ds tr i' i&&decide (0<sz)&&(match iG P t with | some e=>dv P e sz | none=>false)
  | none=>false
 | .ld a=>match um o.op with
  | some (t,a')=>aH ds tr a' a&&jm P t
  | none=>false
 | .df n a=>match um o.op with
  | some (t,a')=>aH ds tr a' a&&mI P t&&dv P t n
  | none=>false
 | .fA off a=>match A7 o.op with
  | some (t,a',f)=>aH ds tr a' a&&(match gY P t f with | some (o,ft)=>decide (o=off)&&!dv P ft 0&&(P.info? ft).isSome | none=>false)
  | none=>false
 | .p7 off x=>match uA o.op with
  | some (t,x',f)=>aH ds tr x' x&&(match gY P t f with | some (o,ft)=>decide (o=off)&&jm P ft | none=>false)
  | none=>false
 | .pP off n x=>match uA o.op with
  | some (t,x',f)=>aH ds tr x' x&&(match gY P t f with | some (o,ft)=>decide (o=off)&&mI P ft&&dv P ft n | none=>false)
  | none=>false
 | .gQ zs parts=>match AV o.op with
  | some (t,ps)=>l7 P t (zs.map kT)&&nL P ds tr t ps.toList parts&&F4 P t
  | none=>false
 | .gP x i=>match Am o.op with
  | some (t,x',i')=>aH ds tr x' x&&aH ds tr i' i&&(match P.underlying t with | some .string=>true | _=>false)
  | none=>false
 | .ext i x=>match AL o.op with
  | some (x',i')=>aH ds tr x' x&&i == i'
  | none=>false
 | .bC x=>match A3 o.op with
  | some x'=>aH ds tr x' x
  | none=>false
 | .eqs neg ks x y=>match nS o.op with
  | some (op,t,x',y')=>decide (op=if neg then .neq else .eql)&&aH ds tr x' x&&aH ds tr y' y&&(match P.underlying t with | some (.struct fs)=>eqFields P 0 fs.toList ks&&!P.stoodInHeld t | _=>false)&&!P.eqGuardType P.depth t
  | none=>false
 | .call f xs=>match nM o.op with
  | some (f',as)=>f == f'&&eB ds tr as xs&&hU P f
  | none=>false
 | .hY f xs=>match nM o.op with
  | some (f',as)=>f == f'&&eB ds tr as xs&&hU P f
  | none=>false
 | .gm f xs=>match nM o.op with
  | some (f',as)=>f == f'&&eB ds tr as xs&&hU P f
  | none=>false
 | .box n x=>match uE o.op with
  | some (e,x')=>aH ds tr x' x&&dv P e n
  | none=>false
 | .fg n x | .ll n x=>match uE o.op with
  | some (e,x')=>aH ds tr x' x&&dv P e n
  | none=>false
 | .cn zs=>match zT o.op with
  | some t=>l7 P t (zs.map kT)
  | none=>false
 | .ak z bytes l c=>match AE o.op with
  | some (t,l',c')=>aH ds tr l' l&&aH ds tr c' c&&decide (0<z.cells.length)&&(match iG P t with | some e=>l7 P e z.cells&&nP P e bytes&&decide (0<bytes) | none=>false)
  | none=>false
 | .aQ z n parts=>match ud o.op with
  | some (t,n',ps)=>n == n'&&iU ds tr ps.toList parts&&decide (0<z.cells.length)&&decide (n*z.cells.length<=16777216)&&(match iG P t with | some e=>l7 P e z.cells | none=>false)
  | none=>false
 | .jC z x=>match ud o.op with
  | some (t,n',ps)=>decide (n'=1)&&iU ds tr ps.toList [(0,x)]&&decide (0<z.cells.length)&&decide (z.cells.length<=16777216)&&(match iG P t with | some e=>l7 P e z.cells | none=>false)
  | none=>false
 | .st a x=>match qM o.op with
  | some (t,a',x')=>aH ds tr a' a&&aH ds tr x' x&&dv P t 1
  | none=>false
 | .bB n a x=>match qM o.op with
  | some (t,a',x')=>aH ds tr a' a&&aH ds tr x' x&&dv P t n
  | none=>false
 | .iq n a x=>match qM o.op with
  | some (t,a',x')=>aH ds tr a' a&&aH ds tr x' x&&dv P t n
  | none=>false
 | .app sz bytes s x=>match kI .append o.op with
  | some ([s',x'],[t,t'])=>aH ds tr s' s&&aH ds tr x' x&&t == t'&&(match iG P t with
   | some e=>nP P e bytes&&(match P.info? e with | some i=>decide (0<sz)&&decide (0<bytes)&&decide (i.size=sz)&&i.zero.any (fun z=>decide (z.cells.size=i.size)) | none=>false) | none=>false)
  | _=>false
 | .ew sz bytes b s=>match kI .append o.op with
  | some ([s',x'],[t,t'])=>aH ds tr s' (.t b)&&aH ds tr x' (.t s)&&t == t'&&(match iG P t with
   | some e=>nP P e bytes&&(match P.info? e with | some i=>decide (0<sz)&&decide (0<bytes)&&decide (i.size=sz)&&i.zero.any (fun z=>decide (z.cells.size=i.size)) | none=>false) | none=>false)
  | _=>false
 | .ow x lo hi=>match tP o.op with
  | some (t,x',lo',hi')=>aH ds tr x' x&&og ds tr lo' lo&&og ds tr hi' hi&&(match P.underlying t with | some .string=>true | _=>false)
  | none=>false
 | .sl x lo hi=>match tP o.op with
  | some (t,x',lo',hi')=>aH ds tr x' x&&og ds tr lo' lo&&og ds tr hi' hi&&(match P.underlying t with | some (.slice e)=>dv P e 1 | _=>false)
  | none=>false
 | .p5 f caps=>match AO o.op with
  | some (f',first,captured)=>f == f'&&first.isEmpty&&eB ds tr captured.toList caps
  | none=>false
 | .kD x y=>match kI .copy o.op with
  | some ([x',y'],[t,t'])=>aH ds tr x' x&&aH ds tr y' y&&(match iG P t,iG P t' with | some e,some _=>dv P e 1 | _,_=>false)
  | _=>false
 | .dyn x xs=>match AT o.op with
  | some (x',as)=>aH ds tr x' x&&eB ds tr as xs
  | none=>false
 | .fV=>(A4 o.op).isSome
 | .oy ok kk z m k=>match zI o.op with
  | some (t,m',k',ok')=>aH ds tr m' m&&aH ds tr k' k&&ok == ok'&&(match pQ P t with | some (kt,e)=>ma P kt kk&&zeroV P e z | none=>false)
  | none=>false
 | .oh x=>match kI .len o.op with
  | some ([x'],[t])=>aH ds tr x' x&&(pQ P t).isSome
  | _=>false
 | .lC kk m k v=>match AZ o.op with
  | some (t,m',k',v')=>aH ds tr m' m&&aH ds tr k' k&&aH ds tr v' v&&(match pQ P t with | some (kt,_)=>ma P kt kk | none=>false)
  | none=>false
 | .oB x=>match qW o.op with
  | some (s,d,x')=>aH ds tr x' x&&(match P.underlying s,P.underlying d with
   | some (.slice e),some .string=>(match P.underlying e with | some (.int .u8)=>true | _=>false)
   | _,_=>false)
  | none=>false
 | .fY x=>match qW o.op with
  | some (s,d,x')=>aH ds tr x' x&&(match P.underlying s,P.underlying d with
   | some .string,some (.slice e)=>(match P.underlying e with | some (.int .u8)=>true | _=>false)
   | _,_=>false)
  | none=>false
 | .pH neg x=>match nS o.op with
  | some (op',t,x',.const .nilIface)=>decide (op'=if neg then .neq else .eql)&&aH ds tr x' x&&(match P.underlying t with | some (.interface _)=>true | _=>false)
  | _=>false
 | .eF x=>match AK o.op with
  | some (t,x')=>aH ds tr x' x&&(match P.underlying t with | some .string=>true | _=>false)
  | none=>false
 | .lz j=>match A2 o.op with
  | some x'=>aH ds tr x' (.v j)
  | none=>false
def closure(acc:List Nat)(o:Oper):Nat:=o.after.toList.foldl (fun s e=>if Region.binds .any e=true then s ||| (1 <<< e.on ||| acc.getD e.on 0) else s) 0
def dW:List Nat->List Oper->List Nat
 | acc,[]=>acc
 | acc,o::r=>dW (acc++[closure acc o]) r
def fq(cl:List Nat)(i x:Nat):Bool:=(cl.getD i 0).testBit x
def gi:X->List Nat
 | .t n=>[n]
 | _=>[]
def Ac:Option X->List Nat
 | some x=>gi x
 | none=>[]
def Kp.reads:Kp->List Nat
 | .mv x | .bo x | .bP _ x | .jA _ x | .jD _ x | .not x | .conv _ x | .len x | .pA x | .ld x | .df _ x | .fA _ x | .p7 _ x | .pP _ _ x | .ext _ x | .bC x | .box _ x | .fg _ x | .ll _ x | .jC _ x | .oh x | .oB x | .pH _ x | .eF x | .fY x=>gi x
 | .cn _=>[]
 | .fV | .lz _=>[]
 | .ew _ _ b s=>[b,s]
 | .pick a b c | .lC _ a b c=>gi a++gi b++gi c
 | .bin _ x y | .shr x y | .mm _ x y | .pK _ x y | .az _ x y | .gP x y | .eqs _ _ x y | .ak _ _ x y | .st x y | .bB _ x y | .iq _ x y | .kD x y | .app _ _ x y | .oy _ _ _ x y=>gi x++gi y
 | .gQ _ ps=>ps.flatMap fun p=>gi p.2.2
 | .aQ _ _ ps=>ps.flatMap fun p=>gi p.2
 | .call _ xs | .gm _ xs | .hY _ xs | .p5 _ xs=>xs.flatMap gi
 | .ow x lo hi | .sl x lo hi=>gi x++Ac lo++Ac hi
 | .dyn x xs=>gi x++xs.flatMap gi
def Kp.xs:Kp->List X
 | .mv x | .bo x | .bP _ x | .jA _ x | .jD _ x | .not x | .conv _ x | .len x | .pA x | .ld x | .df _ x | .fA _ x | .p7 _ x | .pP _ _ x | .ext _ x | .bC x | .box _ x | .fg _ x | .ll _ x | .jC _ x | .oh x | .oB x | .pH _ x | .eF x | .fY x=>[x]
 | .cn _=>[]
 | .fV=>[]
 | .lz j=>[.v j]
 | .ew _ _ b s=>[.t b,.t s]
 | .pick a b c | .lC _ a b c=>[a,b,c]
 | .bin _ x y | .shr x y | .mm _ x y | .pK _ x y | .az _ x y | .gP x y | .eqs _ _ x y | .ak _ _ x y | .st x y | .bB _ x y | .iq _ x y | .kD x y | .app _ _ x y | .oy _ _ _ x y=>[x,y]
 | .gQ _ ps=>ps.map (·.2.2)
 | .aQ _ _ ps=>ps.map (·.2)
 | .call _ xs | .gm _ xs | .hY _ xs | .p5 _ xs=>xs
 | .ow x lo hi | .sl x lo hi=>x::lo.toList++hi.toList
 | .dyn x xs=>x::xs
def Kp.du:Kp->Option Nat
 | .bP j _ | .jA j _ | .jD j _=>some j
 | _=>none
def ru(pre:List Nat)(s:bc):Bool :=
 (match s.k.du with | some j=>!pre.contains j | none=>true)&&s.k.xs.all (fun x=>match x with | .v j=>!pre.contains j | _=>true)
def Kp.fx:Kp->Bool
 | .bP _ _ | .jA _ _ | .jD _ _ | .st _ _ | .bB _ _ _ | .iq _ _ _ | .app _ _ _ _ | .hY _ _ | .dyn _ _ | .bo _ | .kD _ _ | .ll _ _ | .jC _ _ | .ew _ _ _ _ | .lC _ _ _ _ | .lz _=>true
 | _=>false
def Kp.kZ:Kp->Bool
 | .ew _ _ _ _=>true
 | _=>false
def bc.Bf(s:bc):Bool:=s.g.isNone&&match s.k with | .mv (.v _)=>true | _=>false
def fc(o:Oper)(s:bc):Option Nat:=match s.k.du with
 | some _=>none
 | none=>o.dst
def bJ:List Oper->List bc->List (Option Nat)
 | o::l,s::r=>fc o s::bJ l r
 | _,_=>[]
def jX(P:Program)(nt:Nat)(ds:List (Option Nat))(tr:List Nat):Nat->List Oper->List bc->Bool
 | _,[],[]=>true
 | n,o::l,s::r=>(match o.dst with | some d=>decide (d<nt) | none=>true) &&
   (match s.k.du with | some j=>decide (o.dst=tr[j]?)&&decide (j<tr.length)&&s.g.isNone | none=>true) &&
   (match o.guard,s.g with
    | none,none=>true
    | some (j,want),some (i,want')=>j == i&&want == want'&&decide (i<n)&&(match ds[i]? with | some (some _)=>true | _=>false)
    | _,_=>false)&&aY P ds tr o s.k&&s.k.reads.all (fun i=>decide (i<n))&&jX P nt ds tr (n+1) l r
 | _,_,_=>false
def qX:List (Option Nat)->Bool
 | []=>true
 | none::r=>qX r
 | some d::r=>!(r.contains (some d))&&qX r
def ug:List Nat->Bool
 | []=>true
 | d::r=>!(r.contains d)&&ug r
def rf(tr pre:List Nat):List (Option Nat)->Bool
 | []=>true
 | none::r=>rf tr pre r
 | some d::r=>(tr.zipIdx.all fun p=>!(p.1 == d) || pre.contains p.2)&&rf tr pre r
def uj(ds:List (Option Nat))(tr pre:List Nat):List (Nat×Nat)->Bool
 | []=>true
 | (j,i)::r=>pre.contains j&&(match tr[j]?,ds[i]? with | some t,some (some d)=>t == d | _,_=>false)&&!((r.map (·.1)).contains j)&&uj ds tr pre r
def Br(cl:List Nat)(sl:List bc)(e b:Nat):Bool :=
 sl.zipIdx.all fun q=>decide (q.2=e) || !q.1.k.kZ&&!q.1.k.reads.contains b&&(match q.1.g with | some (i,_)=>i != b | none=>true)&&(decide (q.2<=e) || fq cl q.2 e || q.1.Bf)
def ur(k:Nat)(cl:List Nat)(sl:List bc):Bool :=
 sl.zipIdx.all fun p=>(p.1.k.reads.all fun i=>fq cl p.2 i)&&(match p.1.g with | some (i,_)=>fq cl p.2 i | none=>true) &&
  (match p.1.k with
   | .ew _ _ b _=>Br cl sl p.2 b
   | kk=>!kk.fx || ((List.range p.2).all fun i=>decide (i<k) || fq cl p.2 i)&&((List.range sl.length).all fun i=>decide (i<=p.2) || fq cl i p.2))
def iE(ops:List Oper):Bool:=ops.zipIdx.all fun p=>p.1.after.toList.all fun e=>!Region.binds .any e || decide (e.on<p.2)
def Bv(vs ds:List Nat):Operand->Bool
 | .tmp t=>vs.contains t || !ds.contains t
 | _=>false
def Vw(tr vs ds:List Nat)(o:Oper):Bool :=
 o.guard.isNone&&(match o.dst with | some d=>!tr.contains d | none=>false)&&(match o.op with | .move x=>Bv vs ds x | .nilCheck x=>Bv vs ds x | .fieldAddr _ x _=>Bv vs ds x | _=>false)
def AW(tr ds:List Nat):Nat->List Nat->List Nat->List Oper->List Nat
 | _,_,_,[]=>[]
 | i,vs,is,o::r=>if(Vw tr vs ds o&&o.after.toList.all fun e=>!Region.binds .any e || is.contains e.on)=true then i::AW tr ds (i+1) (o.dst.toList++vs) (i::is) r else AW tr ds (i+1) vs is r
def JB:List Oper->List Nat
 | []=>[]
 | o::r=>o.dst.toList++JB r
def Ay(tr:List Nat)(ops:Array Oper):List Nat:=AW tr (JB ops.toList) 0 [] [] ops.toList
def Ax(tr:List Nat)(ops:Array Oper):List Nat:=Ay tr ops++(List.range ops.size).filter fun i=>!(Ay tr ops).contains i
def posOf:List Nat->Nat->Nat
 | [],_=>0
 | i::r,j=>if i=j then 0 else posOf r j+1
def fB(ρ:Nat->Nat)(o:Oper):Oper:={ o with after:=o.after.map fun e=>{ e with on:=ρ e.on },guard:=o.guard.map fun g=>(ρ g.1,g.2) }
def fC(l:List Nat)(ops:Array Oper):Array Oper:=(l.map fun i=>fB (posOf l) (ops.getD i default)).toArray
def nO(l:List Nat)(n:Nat):Bool:=decide (l.length=n)&&((List.range n).all fun j=>decide (posOf l j<n)&&decide (l.getD (posOf l j) n=j))&&(List.range n).all fun i=>decide (l.getD i n<n)&&decide (posOf l (l.getD i n)=i)
def kL(n:Nat)(ops:List Oper):Bool:=ops.all fun o=>match o.guard with | some (j,_)=>decide (j<n) | none=>true
def bc.oo(s:bc):Bool:=s.g.isNone&&match s.k with | .mv _ | .bC _ | .fA _ _=>true | _=>false
def rk(draw:Bool)(ops:Array Oper)(l:List bc):Bool:=draw&&!ur 0 (dW [] ops.toList) l
def fk(tr:List Nat)(draw:Bool)(ops:Array Oper)(l:List bc):Array Oper:=if rk draw ops l=true then fC (Ax tr ops) ops else ops
def Be(n i:Nat):Array Bool:=((List.range n).map fun j=>decide (j<i)).toArray
def Jc(e:Array Oper)(k:Nat)(l:List bc):Bool:=(l.take k).all bc.oo&&Region.noSelect e&&(List.range k).all fun i=>Region.free .any e (Be e.size i) i
def kH(tr:List Nat)(draw:Bool)(ops:Array Oper)(l:List bc):Nat:=if rk draw ops l=true then(Ay tr ops).length else 0
def jy(P:Program)(nt:Nat)(tr:List Nat)(ops:Array Oper)(draw:Bool)(pre:List Nat)(l:List bc)(post:List (Nat×Nat)):Bool :=
 let e:=fk tr draw ops l;let ds:=bJ e.toList l
 decide (e.size=l.length)&&jX P nt ds tr 0 e.toList l&&qX ds&&rf tr pre ds&&uj ds tr pre post&&pre.all (fun j=>decide (j<tr.length))&&l.all (ru pre) &&
  (!draw || (P.follows .mixedOrders&&iE e.toList&&ur (kH tr draw ops l) (dW [] e.toList) l)) &&
  (!rk draw ops l || (nO (Ax tr ops) ops.size&&kL ops.size ops.toList&&iE ops.toList&&Jc e (kH tr draw ops l) l&&decide (kH tr draw ops l<=l.length)))
def o5(ops:Array Oper):Bool:=ops.toList.all fun o=>o.after.toList.all fun e=>!Region.binds .any e || decide (e.on<ops.size)
def eZ(i j:Nat)(ops:Array Oper):Array Oper:=ops.modify j fun o=>{ o with after:=o.after.push ⟨i,.data⟩ }
def rL(P:Program)(nt:Nat)(tr pre:List Nat):RT->Array Oper->Bool
 | .leaf l post,ops=>jy P nt tr ops true pre l post
 | .two i j pm a b,ops=>decide (i≠j)&&decide (i<ops.size)&&decide (j<ops.size)&&o5 ops&&kL ops.size ops.toList&&nO pm ops.size&&rL P nt tr pre a (eZ i j ops)&&rL P nt tr pre b (fC pm (eZ j i ops))
def cw(P:Program)(nt:Nat)(tr:List Nat):Code->C->Bool
 | .skip,.skip=>true
 | .region _ ops draw,.ops pre l post=>jy P nt tr ops draw pre l post
 | .region _ ops draw,.alt pre t=>draw&&iE ops.toList&&rL P nt tr pre t ops
 | .seq (.region _ ops draw) (.cond x a b),.di pre l post y c d=>jy P nt tr ops draw pre l post&&aH (bJ (fk tr draw ops l).toList l) tr x y&&cw P nt tr a c&&cw P nt tr b d
 | .seq (.region _ ops draw) (.seq (.cond x a b) r),.vj pre l post y c d e=>jy P nt tr ops draw pre l post&&aH (bJ (fk tr draw ops l).toList l) tr x y&&cw P nt tr a c&&cw P nt tr b d&&cw P nt tr r e
 | .seq a b,.seq c d=>cw P nt tr a c&&cw P nt tr b d
 | .cond x a b,.cond y c d=>aH [] tr x y&&cw P nt tr a c&&cw P nt tr b d
 | .block i a,.block j c=>i == j&&cw P nt tr a c
 | .loop a,.loop c=>cw P nt tr a c
 | .exit i,.exit j=>i == j
 | .ret,.ret=>true
 | _,_=>false
def kn(nt:Nat)(tr:List Nat):Bool:=ug tr&&tr.all (fun t=>decide (t<nt))&&decide (tr.length<500)
end Go.D3
namespace Go.D3
open Go
theorem I6:∀{l r:List UInt8},cU l r=true->l=r
 | [],[],_=>rfl
 | [],_::_,h=>by simp[cU] at h
 | _::_,[],h=>by simp[cU] at h
 | a::l,b::r,h=>by
  simp[cU] at h;rw[h.1,I6 h.2]
theorem zQ(s:ByteArray):s=⟨s.data.toList.toArray⟩:=by cases s;simp
section
variable{P:Program}{o:Oper}{w:World}{A:Nat->Prop}{ct:Nat->D}{vl:Nat->Value}{a:Act}{v:Value}
theorem dY{k:IntKind}{n:Int}(h:Pl w A (aj w ct vl) v (.int k n)):v=.int k n/\k.has n:=by
 cases h with
 | rd h=>cases h with | int h=>exact⟨rfl,h⟩
 | ref h=>exact h.elim
theorem pl_bool{b:Bool}(h:Pl w A (aj w ct vl) v (.bool b)):v=.bool b:=by
 cases h with
 | rd h=>cases h;rfl
 | ref h=>exact h.elim
theorem gk{l:List UInt8}(h:Pl w A (aj w ct vl) v (.str l)):v=.string ⟨l.toArray⟩/\l.length<=maxLen:=by
 cases h with
 | rd h=>cases h with | str h=>exact⟨rfl,h⟩
 | ref h=>exact h.elim
theorem kO{l:List D}(h:Pl w A (aj w ct vl) v (.agg l)):∃cs:Array Value,v=.agg cs/\cs.size=l.length/\∀j x,l[j]?=some x->Pl w A (aj w ct vl) (cs.getD j undef) x:=by
 cases h with
 | rd h=>cases h with | agg hs hr=>exact⟨_,rfl,hs,fun j x hx=>.rd (hr j x hx)⟩
 | ref h=>exact h.elim
 | agg hs hr=>exact⟨_,rfl,hs,hr⟩
theorem UM{l:List D}(h:Pl w A (aj w ct vl) v (.au l)):∃cs:Array Value,v=.tuple cs/\cs.size=l.length/\∀j x,l[j]?=some x->Pl w A (aj w ct vl) (cs.getD j undef) x:=by
 cases h with
 | rd h=>cases h with | au hs hr=>exact⟨_,rfl,hs,fun j x hx=>.rd (hr j x hx)⟩
 | ref h=>exact h.elim
 | au hs hr=>exact⟨_,rfl,hs,hr⟩
theorem o8{l:List D}(h:Pl w A (aj w ct vl) v (.ptr l)):∃b off,v=.pointer (some ⟨b,off,none⟩)/\A b/\∀j x,l[j]?=some x->∃u,w.cell? ⟨b,off+j,none⟩=some u/\Rd w A u x:=by
 cases h with
 | rd h=>cases h with | ptr hA vs hc hr=>exact⟨_,_,rfl,hA,fun j x hx=>⟨vs j,hc j x hx,hr j x hx⟩⟩
 | ref h=>exact h.elim
theorem bV{d:D}(h:Pl w A (aj w ct vl) v d)(hd:∀k p,d≠.sub k p)(ha:∀k p,d≠.av k p)(hf:∀f c,d≠.fn f c)(hg:∀l,d≠.agg l)(ht:∀l,d≠.au l)(hp:∀k p n,d≠.pre k p n:=by simp):Rd w A v d:=by
 cases h with
 | rd h=>exact h
 | @ref v d h=>cases d<;>first | exact h.elim | exact absurd rfl (hd _ _) | exact absurd rfl (ha _ _) | exact absurd rfl (hf _ _) | exact absurd rfl (hp _ _ _)
 | agg=>exact absurd rfl (hg _)
 | au=>exact absurd rfl (ht _)
 | fn=>exact absurd rfl (hf _ _)
theorem nz{z:D}{L:List D}(h:Pl w A (aj w ct vl) v (.slice z L)):Rd w A v (.slice z L) :=
 bV h (by simp) (by simp) (by simp) (by simp) (by simp)
theorem dL{k:Nat}{p:Path}(h:Pl w A (aj w ct vl) v (.sub k p)):aj w ct vl v (.sub k p):=by
 cases h with
 | rd h=>cases h
 | ref h=>exact h
theorem fL{k:Nat}{p:Path}(h:Pl w A (aj w ct vl) v (.av k p)):kW w ct vl v k p:=by
 cases h with
 | rd h=>cases h
 | ref h=>exact h
theorem mh{f:FuncId}{caps:List D}(h:Pl w A (aj w ct vl) v (.fn f caps)):∃cs:Array Value,v=.func (.func f) #[] cs/\cs.size=caps.length/\∀j x,caps[j]?=some x->Pl w A (aj w ct vl) (cs.getD j undef) x:=by
 cases h with
 | rd h=>cases h with | fn hs hr=>exact⟨_,rfl,hs,fun j x hx=>.rd (hr j x hx)⟩
 | ref h=>exact h.elim
 | fn hs hr=>exact⟨_,rfl,hs,hr⟩
theorem zt{z:D}{L:List D}(h:Rd w A v (.slice z L)):∃p cap,v=.slice p L.length cap/\L.length<=cap/\cap<=maxLen /\
  (L≠[]->∃b off,p=some ⟨b,off,none⟩/\A b/\0<z.cells.length/\(∀x∈L,x.cells.length=z.cells.length)/\∀j x,cellAt L z.cells.length j=some x->∃u,w.cell? ⟨b,off+j,none⟩=some u/\Rd w A u x):=by
 cases h with
 | nil=>exact⟨none,0,rfl,Nat.le_refl _,Nat.zero_le _,fun h=>absurd rfl h⟩
 | empty hm=>exact⟨_,_,rfl,Nat.zero_le _,hm,fun h=>absurd rfl h⟩
 | slice hA hc hm hz hzz hsz vs hcells hr =>
  subst hzz;exact⟨_,_,rfl,hc,hm,fun _=>⟨_,_,rfl,hA,hz,hsz,fun j x hx=>⟨vs j,hcells j x hx,hr j x hx⟩⟩⟩
theorem sL{z:D}{L:List D}{F:Nat->Prop}(h:an w A v (.slice z L) F):∃p cap,v=.slice p L.length cap/\L.length<=cap/\cap<=maxLen/\(L≠[]->∃b off,p=some ⟨b,off,none⟩):=by
 cases h with
 | nil=>exact⟨none,0,rfl,Nat.le_refl _,Nat.zero_le _,fun h=>absurd rfl h⟩
 | slice Fs hb hroom hc hm hz hzz hsz hr hF hfs hdis=>exact⟨_,_,rfl,hc,hm,fun _=>⟨_,_,rfl⟩⟩
theorem lF{w:World}{A:Nat->Prop}{x:D}(h:Pl w A (aj w ct vl) v x){l:List D}(hl:x.cellsOf=some l):v.cells.size=l.length/\∀j c,l[j]?=some c->Pl w A (aj w ct vl) (v.cells.getD j undef) c:=by
 have one:(v.cells=#[v])->l=[x]->v.cells.size=l.length/\∀j c,l[j]?=some c->Pl w A (aj w ct vl) (v.cells.getD j undef) c:=by
  rintro h1 rfl;refine⟨by simp[h1],fun j c hc=>?_⟩;cases j with
  | zero=>simp at hc;subst hc;simpa[h1] using h
  | succ j=>simp at hc
 have rdc:∀{v:Value}{d:D},Rd w A v d->(∀l,d≠.agg l)->d≠.dead->(∀y,d≠.o y)->(∀y,d≠.vw y)->v.cells=#[v]:=by
  intro v d h h1 h2 h3 h4;cases h<;>first | rfl | exact absurd rfl (h1 _) | exact absurd rfl h2 | exact absurd rfl (h3 _) | exact absurd rfl (h4 _)
 cases x<;>simp only[D.cellsOf,Option.some.injEq,reduceCtorEq] at hl
 case agg l' =>
  subst hl;obtain⟨cs,rfl,h1,h2⟩:=kO h;exact⟨h1,h2⟩
 case pre k p n =>
  refine one ?_ hl.symm;cases h with
  | rd h=>cases h
  | ref h=>obtain⟨q,m,c,_,_,rfl⟩:=h;rfl
 all_goals
  refine one ?_ hl.symm
 case sub k p=>obtain⟨_,_,⟨q,n,c,rfl⟩ | ⟨r,rfl⟩⟩:=dL h<;>rfl
 case av k p=>obtain⟨_,_,_,rfl⟩:=fL h;rfl
 case fn f caps=>obtain⟨cs,rfl,_⟩:=mh h;rfl
 all_goals exact rdc (bV h (by simp) (by simp) (by simp) (by simp) (by simp)) (by simp) (by simp) (by simp) (by simp)
end
end Go.D3
namespace Go.D3
open Go
theorem CU:∀(xs l:List D)(off:Nat),(setCells l off xs).length=l.length
 | [],_,_=>rfl
 | x::r,l,off=>by simp[setCells,CU r]
theorem xS:∀(xs l:List D)(off j:Nat),off+xs.length<=l.length->(setCells l off xs)[j]?=if off<=j/\j<off+xs.length then xs[j-off]? else l[j]?
 | [],l,off,j,_=>by simp[setCells];intro h1 h2;omega
 | x::r,l,off,j,h=>by
  simp only[List.length_cons] at h;rw[setCells,xS r _ _ _ (by simp;omega)];simp only[List.length_cons];by_cases h1:off+1<=j/\j<off+1+r.length
  ·rw[if_pos h1,if_pos (by omega)]
   obtain⟨k,rfl⟩:∃k,j=off+1+k:=⟨j-(off+1),by omega⟩;simp[show off+1+k-off=k+1 by omega]
  ·rw[if_neg h1]
   by_cases h2:j=off
   ·subst h2
    rw[if_pos (by omega)];simp[show j<l.length by omega]
   ·rw[if_neg (by omega),List.getElem?_set_ne (by omega)]
def eI(cs:Array Value)(off:Nat):List Value->Array Value
 | []=>cs
 | v::r=>eI (cs.setIfInBounds off v) (off+1) r
theorem sk:∀(l:List Value)(k off:Nat)(cs:Array Value),(l.zipIdx k).foldl (fun cs (p:Value×Nat)=>cs.setIfInBounds (off+p.2) p.1) cs=eI cs (off+k) l
 | [],_,_,_=>rfl
 | v::r,k,off,cs=>by
  simp only[List.zipIdx_cons,List.foldl_cons,eI];rw[sk r (k+1) off];congr 1
theorem oF:∀(l:List Value)(off:Nat)(cs:Array Value),(eI cs off l).size=cs.size
 | [],_,_=>rfl
 | v::r,off,cs=>by rw[eI,oF r];simp
theorem oG:∀(l:List Value)(off:Nat)(cs:Array Value)(j:Nat),off+l.length<=cs.size->(eI cs off l).getD j undef=if off<=j/\j<off+l.length then l.getD (j-off) undef else cs.getD j undef
 | [],off,cs,j,_=>by simp[eI];intro h1 h2;omega
 | v::r,off,cs,j,h=>by
  simp only[List.length_cons] at h;rw[eI,oG r _ _ _ (by simp;omega)];simp only[List.length_cons];by_cases h1:off+1<=j/\j<off+1+r.length
  ·rw[if_pos h1,if_pos (by omega)]
   obtain⟨k,rfl⟩:∃k,j=off+1+k:=⟨j-(off+1),by omega⟩;simp[show off+1+k-off=k+1 by omega]
  ·rw[if_neg h1]
   by_cases h2:j=off
   ·subst h2
    rw[if_pos (by omega)];simp[show j<cs.size by omega]
   ·rw[if_neg (by omega)]
    simp[Array.getElem?_setIfInBounds_ne (show off≠j by omega)]
section
variable{P:Program}{o:Oper}{w:World}{A:Nat->Prop}{ct:Nat->D}{vl:Nat->Value}{a:Act}{ds:List (Option Nat)}{tr:List Nat}{rd:X->D}
theorem Vm{R:Value->D->Prop}{cs vs:Array Value}{l xs:List D}{off:Nat}(hs:cs.size=l.length)(hr:∀j c,l[j]?=some c->R (cs.getD j undef) c)
  (hs':vs.size=xs.length) (hr':∀j c,xs[j]?=some c->R (vs.getD j undef) c) (h:off+xs.length<=l.length) :
  (eI cs off vs.toList).size=(setCells l off xs).length/\∀j c,(setCells l off xs)[j]?=some c->R ((eI cs off vs.toList).getD j undef) c:=by
 refine⟨by rw[oF,CU,hs],fun j c hc=>?_⟩;rw[xS _ _ _ _ h] at hc;rw[oG _ _ _ _ (by simp;omega)];simp only[Array.length_toList,hs'];split at hc
 ·rename_i h1
  rw[if_pos h1];have:=hr' _ _ hc;simpa using this
 ·rename_i h1
  rw[if_neg h1];exact hr _ _ hc
theorem FI{v:Value}{d:D}{F:Nat->Prop}(h:ib v d=true):an w A v d F/\d.isAgg=false:=by
 unfold ib at h;split at h
 ·simp at h
  obtain⟨⟨h1,h2⟩,h3⟩:=h;subst h1;subst h2;exact⟨.int (jO h3),rfl⟩
 ·simp at h;subst h;exact⟨.bool,rfl⟩
 ·rename_i s
  have:s.data.toList=[]:=by simpa using h
  rw[zQ s,this];exact⟨.str (by simp),rfl⟩
 ·exact⟨.dead,rfl⟩
 ·exact⟨.nil,rfl⟩
 ·exact⟨.bp,rfl⟩
 ·exact⟨.bK,rfl⟩
 ·exact⟨.bd,rfl⟩
 ·cases h
theorem zf{v:Value}{d:D}(h:ib v d=true):Rd w A v d :=
 ((FI (w:=w) (A:=A) (F:=fun _=>False) h).1).rd (fun _ h=>h) (fun _ h=>h.elim)
theorem Ht{v:Value}{d:D}(h:ib v (kT d)=true):Rd w A v d:=by
 cases d with
 | aB z =>
  simp only[kT] at h;unfold ib at h;split at h<;>first | exact .aB | cases h | (rename_i hh _;cases hh) | skip
  all_goals first | exact .aB | contradiction
 | _=>exact zf h
theorem Oe{R:Value->D->Prop}{v:Value}{d:D}{F:Nat->Prop}(h:ib v (kT d)=true):bY w A R v F d:=by
 have hr:=Ht (w:=w) (A:=A) h;cases d<;>first | exact Pl.rd hr | (simp only[kT] at h;unfold ib at h;split at h<;>first | contradiction | cases h)
theorem E0:∀{vs:List Value}{zs:List D},ph vs zs=true->vs.length=zs.length/\∀j z,zs[j]?=some z->ib (vs.getD j undef) z=true
 | [],[],_=>⟨rfl,by simp⟩
 | [],_::_,h=>by simp[ph] at h
 | _::_,[],h=>by simp[ph] at h
 | v::vs,d::zs,h=>by
  simp[ph] at h;obtain⟨h1,h2⟩:=E0 h.2;refine⟨by simp[h1],fun j z hz=>?_⟩;cases j with
  | zero=>simp at hz;subst hz;simpa using h.1
  | succ j=>simpa using h2 j z (by simpa using hz)
theorem qj{t:TypeId}{zs:List D}(h:l7 P t zs=true):∃i z,P.info? t=some i/\i.zero=some z/\i.size=zs.length/\z.cells.size=zs.length/\∀j d,zs[j]?=some d->ib (z.cells.getD j undef) d=true:=by
 unfold l7 at h;cases hi:P.info? t with
 | none=>simp[hi] at h
 | some i =>
  cases hz:i.zero with
  | none=>simp[hi,hz] at h
  | some z =>
   simp[hi,hz] at h;obtain⟨h1,h2⟩:=E0 h.1;exact⟨i,z,rfl,hz,h.2,by simpa using h1,fun j d hd=>by simpa using h2 j d hd⟩
theorem Nh{t f:Nat}{off:Nat}{ft:TypeId}(h:gY P t f=some (off,ft)):∃fs fl,P.underlying t=some (.struct fs)/\fs[f]?=some fl/\fl.offset=off/\fl.type=ft:=by
 unfold gY at h;cases hu:P.underlying t with
 | none=>simp[hu] at h
 | some d =>
  cases d<;>simp[hu] at h;obtain⟨fl,hfl,h1,h2⟩:=h;exact⟨_,fl,rfl,hfl,h1,h2⟩
theorem DA{t:TypeId}{fs:Array Field}(hu:P.underlying t=some (.struct fs)):∀{ps:List (Nat×Operand)}{parts:List (Nat×Nat×X)},nL P ds tr t ps parts=true ->
  ∀(places:Nat->Option (Nat×Nat)),(∀(i:Nat) fl n,fs[i]?=some fl->dv P fl.type n=true->places i=some (fl.offset,n)) ->
  ps.length=parts.length/\∀(j i:Nat) x off n y,ps[j]?=some (i,x)->parts[j]?=some (off,n,y)->places i=some (off,n)/\aH ds tr x y=true
 | [],[],_,_,_=>⟨rfl,by simp⟩
 | [],_::_,h,_,_=>by simp[nL] at h
 | _::_,[],h,_,_=>by simp[nL] at h
 | (i,x)::ps,(off,n,y)::parts,h,places,hp=>by
  simp only[nL,Bool.and_eq_true] at h;obtain⟨⟨h1,h2⟩,h3⟩:=h;obtain⟨h4,h5⟩:=DA hu h3 places hp;refine⟨by simp[h4],fun j=>?_⟩;cases j with
  | zero =>
   rintro i' x' off' n' y' he he';simp at he he';obtain⟨rfl,rfl⟩:=he;obtain⟨rfl,rfl,rfl⟩:=he';cases hf:gY P t i with
   | none=>simp[hf] at h1
   | some q =>
    obtain⟨o',ft⟩:=q;simp[hf] at h1;obtain⟨fs',fl,hu',hfl,h6,h7⟩:=Nh hf;rw[hu] at hu';injection hu' with hu';injection hu' with hu';subst hu'
    refine⟨?_,h2⟩;rw[<-h1.1,<-h6];exact hp i fl n hfl (by rw[h7];exact h1.2)
  | succ j=>intro i' x' off' n' y' he he';exact h5 j i' x' off' n' y' (by simpa using he) (by simpa using he')
theorem HZ(places:Nat->Option (Nat×Nat)):∀(ps:List (Nat×Operand))(parts:List (Nat×Nat×X))(cs:Array Value)(l:List D)(g:Bool)(l':List D),ps.length=parts.length ->
  (∀(j i:Nat) x off n y,ps[j]?=some (i,x)->parts[j]?=some (off,n,y)->places i=some (off,n)/\aH ds tr x y=true) ->
  (∀y,y∈parts.map (·.2.2)->∀x,aH ds tr x y=true->ca w A (aj w ct vl) (a.eval x) (rd y)) ->
  cs.size=l.length->(∀j c,l[j]?=some c->Pl w A (aj w ct vl) (cs.getD j undef) c)->mq rd l parts=some (g,l')->g=true ->
  ∃cs',Instr.fill places cs (ps.map fun(i,x)=>(i,a.eval x))=some cs'/\cs'.size=l'.length/\∀j c,l'[j]?=some c->Pl w A (aj w ct vl) (cs'.getD j undef) c
 | [],[],cs,l,g,l',_,_,_,h1,h2,hf,_=>by
  simp[mq] at hf;obtain⟨_,rfl⟩:=hf;exact⟨cs,rfl,h1,h2⟩
 | [],_::_,_,_,_,_,h,_,_,_,_,_,_=>by simp at h
 | _::_,[],_,_,_,_,h,_,_,_,_,_,_=>by simp at h
 | (i,x)::ps,(off,n,y)::parts,cs,l,g,l',hl,hp,hr,h1,h2,hf,hg=>by
  simp only[mq] at hf;obtain⟨hpl,hx⟩:=hp 0 i x off n y rfl rfl;cases hc:((rd y).core).cellsOf with
  | none=>simp[hc] at hf
  | some xs =>
   simp only[hc,Option.bind_some] at hf;split at hf
   ·rename_i hlen
    rw[Option.bind_eq_some_iff] at hf;obtain⟨⟨g',l''⟩,hf,he⟩:=hf;injection he with he
    injection he with he1 he2
    subst he2;rw[hg] at he1;simp at he1;have hv:=(hr y (by simp) x hx).1 he1.1;obtain⟨h3,h4⟩:=lF hv hc;obtain⟨h5,h6⟩:=Vm (R:=Pl w A (aj w ct vl)) (off:=off) h1 h2 h3 h4 (by omega)
    obtain⟨cs',h7,h8⟩:=HZ places ps parts _ _ g' l'' (by simpa using hl) (fun j i x off n y hj hj'=>hp (j+1) i x off n y (by simpa using hj) (by simpa using hj'))
     (fun y hy=>hr y (by simp only[List.map_cons,List.mem_cons];exact .inr hy)) h5 h6 hf he1.2
    refine⟨cs',?_,h8⟩;simp only[List.map_cons,Instr.fill,hpl];have hcond:¬((decide ((a.eval x).cells.size≠n) || decide (off+(a.eval x).cells.size > cs.size))=true):=by simp;omega
    rw[if_neg hcond];have:=sk (a.eval x).cells.toList 0 off cs;simp only[Nat.add_zero] at this;rw[<-Array.foldl_toList,Array.toList_zipIdx,this];exact h7
   ·cases hf
theorem Uj{t:TypeId}{ps:Array (Nat×Operand)}(ho:o.op=.build t ps){zs:List D}{parts:List (Nat×Nat×X)}(hz:l7 P t (zs.map kT)=true)(hp:nL P ds tr t ps.toList parts=true)
  (aP:∃fs,P.underlying t=some (.struct fs)/\∀f∈fs.toList,(P.info? f.type).isSome=true)
  (hr:∀y,y∈parts.map (·.2.2)->∀x,aH ds tr x y=true->ca w A (aj w ct vl) (a.eval x) (rd y)) {g:Bool} {l:List D} (hf:mq rd zs parts=some (g,l)) (hg:g=true) :
  ∃v,Yd P o a w v/\Pl w A (aj w ct vl) v (.agg l):=by
 obtain⟨fs,hu,hfs⟩:=aP;obtain⟨i,z,hi,hiz,hsz,hzs,hzc⟩:=qj hz
 have hpl:fs.toList.mapM (fun f=>(P.info? f.type).map fun i=>(f.offset,i.size))=some (fs.toList.map fun f=>(f.offset,((P.info? f.type).map (·.size)).getD 0)):=by
  generalize fs.toList=l at hfs;induction l with
  | nil=>rfl
  | cons f r ih =>
   have h1:=hfs f (by simp);cases hq:P.info? f.type with
   | none=>simp[hq] at h1
   | some q=>simp[List.mapM_cons,hq,ih fun f hf=>hfs f (by simp[hf])]
 obtain⟨h1,h2⟩:=DA hu hp (fun i=>(fs.toList.map fun f=>(f.offset,((P.info? f.type).map (·.size)).getD 0)).toArray[i]?) (fun i fl n hfl hn=>by
  have:fs.toList[i]?=some fl:=by simpa using hfl
  simp only[List.getElem?_toArray,List.getElem?_map,this,Option.map_some];unfold dv at hn;cases hq:P.info? fl.type with
  | none=>simp[hq] at hn
  | some q=>simp[hq] at hn;simp[hn])
 obtain⟨cs',h3,h4,h5⟩:=HZ (w:=w) (A:=A) (ct:=ct) (vl:=vl) (a:=a) _ ps.toList parts z.cells zs g l h1 h2 hr (by simpa using hzs) (fun j c hc=>.rd (Ht (hzc j (kT c) (by rw[List.getElem?_map,hc];rfl)))) hf hg
 have hb:P.built t ((ps.map fun(i,x)=>(i,a.eval x)).toList)=some cs':=by
  simp only[Program.built,hi,hu,hiz,hpl];rw[Array.toList_map];exact h3
 exact⟨.agg cs',by simp only[Yd,execOp,ho];simp[run_build w t _ cs' hb],.agg h4 h5⟩
theorem Gr{xs ys:Array Value}:∀(fs:List Field)(ks:List Nat)(i d:Nat)(l r:List D)(b:Bool),eqFields P i fs ks=true ->
  (∀(j:Nat) c,l[j]?=some c->i+j<xs.size/\Pl w A (aj w ct vl) (xs.getD (i+j) undef) c)->(∀(j:Nat) c,r[j]?=some c->i+j<ys.size/\Pl w A (aj w ct vl) (ys.getD (i+j) undef) c)->gO ks l r=some b ->
  (Op.eqFields (d+1) xs ys fs).run P w=.ok b w
 | [],[],_,_,l,r,b,_,_,_,h=>by
  cases l<;>cases r<;>simp[gO] at h;subst h;simp[Op.eqFields]
 | [],_::_,_,_,_,_,_,h,_,_,_=>by simp[eqFields] at h
 | _::_,[],_,_,_,_,_,h,_,_,_=>by simp[eqFields] at h
 | f::fs,k::ks,i,d,l,r,b,hf,h1,h2,h=>by
  simp only[eqFields,Bool.and_eq_true,decide_eq_true_eq] at hf;obtain⟨⟨⟨hn,hoff⟩,hpe⟩,hf⟩:=hf;have hn':f.name≠ "_":=by simpa using hn
  have hc:jm P f.type=true:=by
   unfold ma at hpe;unfold jm;split at hpe<;>simp_all
  have key:∃x l' y r' b1 b2,l=x::l'/\r=y::r'/\b=(b1&&b2)/\gO ks l' r'=some b2 /\
    ((Pl w A (aj w ct vl) (xs.getD i undef) x->Pl w A (aj w ct vl) (ys.getD i undef) y->(Op.equalIn (d+1) f.type (xs.getD i undef) (ys.getD i undef)).run P w=.ok b1 w)):=by
   unfold ma at hpe;unfold gO at h;split at h
   ·simp_all
   ·split at h
    ·rename_i hk
     subst hk;rw[Option.bind_eq_some_iff] at h;obtain⟨b2,hb2,h⟩:=h;injection h with h;subst h
     rename_i heq;injection heq with hk0 hks
     subst hks;refine⟨_,_,_,_,_,b2,rfl,rfl,rfl,hb2,fun hx hy=>?_⟩;obtain⟨hx,_⟩:=dY hx;obtain⟨hy,_⟩:=dY hy;rw[hx,hy];split at hpe<;>simp_all;exact run_equalIn_int w d f.type _ _ _ _ (by assumption)
    ·cases h
   ·rw[Option.bind_eq_some_iff] at h
    obtain⟨b2,hb2,h⟩:=h;injection h with h;subst h
    rename_i heq;injection heq with hk0 hks
    subst hks;refine⟨_,_,_,_,_,b2,rfl,rfl,rfl,hb2,fun hx hy=>?_⟩;have hx:=pl_bool hx;have hy:=pl_bool hy;rw[hx,hy];split at hpe<;>simp_all;exact run_equalIn_bool' w d f.type _ _ (by assumption)
   ·rw[Option.bind_eq_some_iff] at h
    obtain⟨b2,hb2,h⟩:=h;injection h with h;subst h
    rename_i heq;injection heq with hk0 hks
    subst hks;refine⟨_,_,_,_,_,b2,rfl,rfl,rfl,hb2,fun hx hy=>?_⟩;obtain⟨hx,_⟩:=gk hx;obtain⟨hy,_⟩:=gk hy;rw[hx,hy];split at hpe<;>simp_all;rw[run_equalIn_string w d f.type _ _ (by assumption),ByteArray.toList_eq,ByteArray.toList_eq]
   ·cases h
  obtain⟨x,l',y,r',b1,b2,rfl,rfl,rfl,hrest,hrun⟩:=key;obtain⟨hx1,hx2⟩:=h1 0 _ rfl;obtain⟨hy1,hy2⟩:=h2 0 _ rfl;simp only[Nat.add_zero] at hx1 hx2 hy1 hy2;have hp1:=yY (P:=P) (w:=w) hc (cs:=xs) (off:=i) hx1;have hp2:=yY (P:=P) (w:=w) hc (cs:=ys) (off:=i) hy1;have he:=hrun hx2 hy2;simp only[Op.eqFields,hn',ne_eq,not_false_eq_true,if_true,Sem.run_bind,hoff,hp1,hp2,Result.andThen_ok,he,Sem.run_ite];cases b1
  ·simp
  ·simp only[Bool.not_true,Bool.false_eq_true,if_false,Bool.true_and]
   exact Gr fs ks (i+1) d l' r' b2 hf
    (fun j c hj=>by have:=h1 (j+1) c (by simpa using hj);rwa [show i+(j+1)=i+1+j by omega] at this)
    (fun j c hj=>by have:=h2 (j+1) c (by simpa using hj);rwa [show i+(j+1)=i+1+j by omega] at this) hrest
theorem UL{neg:Bool}{t u:TypeId}{x y:Operand}(ho:o.op=.binOp (if neg then .neq else .eql) t x y u){fs:Array Field}{ks:List Nat}(hu:P.underlying t=some (.struct fs))(hf:eqFields P 0 fs.toList ks=true)
  (hs:P.stoodInHeld t=false) (hq:P.eqGuardType P.depth t=false) {l r:List D} (hx:Pl w A (aj w ct vl) (a.eval x) (.agg l)) (hy:Pl w A (aj w ct vl) (a.eval y) (.agg r))
  {b:Bool} (hb:gO ks l r=some b):Yd P o a w (.bool (if neg then !b else b)):=by
 obtain⟨xs,hxs,h1,h2⟩:=kO hx;obtain⟨ys,hys,h3,h4⟩:=kO hy;have hfo:P.fieldsOf t=fs:=by simp[Program.fieldsOf,hu]
 have hrun:=Gr (P:=P) (w:=w) (A:=A) (ct:=ct) (vl:=vl) (xs:=xs) (ys:=ys) fs.toList ks 0 9998 l r b hf
  (fun j c hj=>⟨by have:=(List.getElem?_eq_some_iff.1 hj).1;omega,by simpa using h2 j c hj⟩) (fun j c hj=>⟨by have:=(List.getElem?_eq_some_iff.1 hj).1;omega,by simpa using h4 j c hj⟩) hb
 have he:(Op.equalIn 10000 t (.agg xs) (.agg ys)).run P w=.ok b w:=by
  rw[run_equalIn_agg w 9999 t xs ys (by rw[hfo];exact hu) hs,hfo];exact hrun
 cases neg
 ·simp only[Bool.false_eq_true,if_false] at ho|-
  simp[Yd,execOp,ho,hxs,hys,run_eqGuard_agg (P:=P) w .eql t x y xs ys hq,run_eql_struct (P:=P) w t xs ys,he]
 ·simp only[if_true] at ho|-
  simp[Yd,execOp,ho,hxs,hys,run_eqGuard_agg (P:=P) w .neq t x y xs ys hq,run_neq_struct (P:=P) w t xs ys,he]
theorem Gt:∀{xs:List Operand}{ys:List X}{l:List D},eB ds tr xs ys=true->(∀y,y∈ys->∀x,aH ds tr x y=true->ca w A (aj w ct vl) (a.eval x) (rd y))->mc rd ys=some l ->
  xs.length=l.length/\∀j c,l[j]?=some c->Pl w A (aj w ct vl) ((xs.map a.eval).getD j undef) c
 | [],[],l,_,_,h=>by simp[mc] at h;subst h;simp
 | [],_::_,_,h,_,_=>by simp[eB] at h
 | _::_,[],_,h,_,_=>by simp[eB] at h
 | x::xs,y::ys,l,hx,hr,h=>by
  simp only[eB,Bool.and_eq_true] at hx;simp only[mc,Option.bind_eq_some_iff] at h;obtain⟨d,hd,l',hl',h⟩:=h;injection h with h;subst h
  obtain⟨h1,h2⟩:=Gt hx.2 (fun y hy=>hr y (by simp[hy])) hl';have hv:=hr y (by simp) x hx.1;refine⟨by simp[h1],fun j c hj=>?_⟩;cases j with
  | zero =>
   simp at hj;subst hj;cases hy:rd y<;>rw[hy] at hd hv<;>simp[D.rJ] at hd
   all_goals
    subst hd;exact hv.1 rfl
  | succ j=>simpa using h2 j c (by simpa using hj)
theorem Vb{f:FuncId}{caps:Array Operand}{first:Array Operand}(ho:o.op=.makeFunc (.func f) first caps)(hfirst:first.isEmpty=true){ys:List X}(hx:eB ds tr caps.toList ys=true)
  (hr:∀y,y∈ys->∀x,aH ds tr x y=true->ca w A (aj w ct vl) (a.eval x) (rd y)) {l:List D} (hl:mc rd ys=some l):∃v,Yd P o a w v/\Pl w A (aj w ct vl) v (.fn f l):=by
 obtain⟨h1,h2⟩:=Gt hx hr hl;have hf:first=#[]:=by simpa using hfirst
 subst hf;refine⟨.func (.func f) #[] (caps.map a.eval),by simp[Yd,execOp,ho,Instr.makeFunc],.fn (by simpa using h1) fun j c hj=>?_⟩;have:=h2 j c hj;simpa using this
theorem yt{L:List D}{sz l h j:Nat}{x:D}(hz : 0<sz)(hx:cellAt ((L.take h).drop l) sz j=some x):cellAt L sz (l*sz+j)=some x:=by
 unfold cellAt at *;have h1:(l*sz+j) / sz=l+j / sz:=by rw[Nat.mul_comm,Nat.mul_add_div hz]
 have h2:(l*sz+j) % sz=j % sz:=by rw[Nat.mul_comm,Nat.mul_add_mod]
 rw[h1,h2];cases hq:((L.take h).drop l)[j / sz]? with
 | none=>simp[hq] at hx
 | some y =>
  rw[hq] at hx;rw[List.getElem?_drop,List.getElem?_take] at hq;split at hq
  ·rw[hq];exact hx
  ·cases hq
theorem qR{x:Option Operand}{y:Option X}(hx:og ds tr x y=true)(hr:∀z,y=some z->∀x,aH ds tr x z=true->ca w A (aj w ct vl) (a.eval x) (rd z)){dflt:Nat}{g:Bool}{m:Int}(h:kg rd dflt y=some (g,m))(hg:g=true) :
  (x.map a.eval=none/\m=dflt)\/∃k,x.map a.eval=some (.int k m):=by
 cases x<;>cases y<;>simp[og] at hx
 ·simp[kg] at h;exact .inl ⟨rfl,h.2.symm⟩
 ·rename_i z y
  simp only[kg,Option.bind_eq_some_iff] at h;obtain⟨n,hn,h⟩:=h;injection h with h;injection h with h1 h2
  subst h2;have hv:=(hr y rfl z hx).1 (by rw[h1];exact hg);cases hc:(rd y).core<;>rw[hc] at hn hv<;>simp[D.int?] at hn;subst hn;exact .inr ⟨_,congrArg some (dY hv).1⟩
theorem qo(isS:Bool)(len cap:Nat)(hc:len<=cap)(lo hi:Option Value)(l h:Int)(h0 : 0<=l)(h1:l<=h)(h2:h<=len)
  (hlo:(lo=none/\l=0)\/∃k,lo=some (.int k l)) (hhi:(hi=none/\h=len)\/∃k,hi=some (.int k h)):(Instr.sliceBounds isS len cap lo hi none).run P w=.ok (l.toNat,h.toNat,cap) w:=by
 have e1:h<=(cap:Int):=by omega
 have e2 : 0<=h:=by omega
 have e3:(h.toNat:Int)=h:=by omega
 rcases hhi with⟨rfl,rfl⟩ | ⟨k,rfl⟩<;>rcases hlo with⟨rfl,rfl⟩ | ⟨k',rfl⟩<;>simp[Instr.sliceBounds,Instr.sliceBound,asIntOf,h0,h1,e1,e2,e3]
theorem data_extract(s:List UInt8)(l h:Nat):(⟨s.toArray⟩:ByteArray).extract l h=⟨((s.take h).drop l).toArray⟩:=by
 apply ByteArray.ext;rw[ByteArray.data_extract];apply Array.ext';simp[List.drop_take]
theorem Q5{t:TypeId}{x:Operand}{lo hi:Option Operand}(ho:o.op=.slice t x lo hi none)(ht:P.underlying t=some .string){s:List UInt8}(hx:a.eval x=.string ⟨s.toArray⟩){l h:Int}(h0 : 0<=l)(h1:l<=h)(h2:h<=s.length)
  (hlo:(lo.map a.eval=none/\l=0)\/∃k,lo.map a.eval=some (.int k l)) (hhi:(hi.map a.eval=none/\h=s.length)\/∃k,hi.map a.eval=some (.int k h)) :
  Yd P o a w (.string ⟨((s.take h.toNat).drop l.toNat).toArray⟩):=by
 have hb:=qo (P:=P) (w:=w) false s.length s.length (Nat.le_refl _) (lo.map a.eval) (hi.map a.eval) l h h0 h1 h2 hlo hhi;have hsz:(⟨s.toArray⟩:ByteArray).size=s.length:=rfl;simp[Yd,execOp,ho,hx,Instr.sliceAt,Instr.slice,run_underlying ht,hsz,hb,data_extract]
theorem Fa{t e:TypeId}{x:Operand}{lo hi:Option Operand}(ho:o.op=.slice t x lo hi none)(ht:P.underlying t=some (.slice e)){inf:TypeInfo}(hi':P.info? e=some inf)(hiz:inf.size=1){z:D}{L:List D}(hzc:z.cells.length=1)
  (hx:Rd w A (a.eval x) (.slice z L)) {l h:Int} (h0 : 0<=l) (h1:l<=h) (h2:h<=L.length)
  (hlo:(lo.map a.eval=none/\l=0)\/∃k,lo.map a.eval=some (.int k l)) (hhi:(hi.map a.eval=none/\h=L.length)\/∃k,hi.map a.eval=some (.int k h)) :
  ∃v,Yd P o a w v/\Rd w A v (.slice z ((L.take h.toNat).drop l.toNat)):=by
 have hlen:((L.take h.toNat).drop l.toNat).length=h.toNat-l.toNat:=by simp;omega
 have hne:(Instr.sliceAt t (a.eval x) (lo.map a.eval) (hi.map a.eval) none).run P w=(Instr.slice t (a.eval x) (lo.map a.eval) (hi.map a.eval) none).run P w:=by
  simp[Instr.sliceAt,run_underlying ht]
 generalize hv:a.eval x=v at *;cases hx with
 | nil =>
  have hb:=qo (P:=P) (w:=w) true 0 0 (Nat.le_refl _) (lo.map a.eval) (hi.map a.eval) l h h0 h1 (by simpa using h2) hlo (by simpa using hhi);have e1:l=0:=by simp at h2;omega
  have e2:h=0:=by simp at h2;omega
  subst e1;subst e2;refine⟨.slice none 0 0,?_,by simpa using Rd.nil⟩;simp only[Yd,execOp,ho,hv,Sem.run_bind,Option.map_none,hne];simp[Instr.slice,run_underlying ht,hb,sizeOf,typeInfo,hi']
 | @empty _ p cap hm =>
  have hb:=qo (P:=P) (w:=w) true 0 cap (Nat.zero_le _) (lo.map a.eval) (hi.map a.eval) l h h0 h1 (by simpa using h2) hlo (by simpa using hhi);have e1:l=0:=by simp at h2;omega
  have e2:h=0:=by simp at h2;omega
  subst e1;subst e2;refine⟨.slice (some p) 0 cap,?_,by simpa using Rd.empty hm⟩;simp only[Yd,execOp,ho,hv,Sem.run_bind,Option.map_none,hne];have hadd:p.add 0=p:=by unfold Addr.add;simp
  simp[Instr.slice,run_underlying ht,hb,sizeOf,typeInfo,hi',hadd]
 | @slice _ _ b off cap sz hA hc hm hz hzz hsz vs hcells hr =>
  have hs1:sz=1:=by omega
  subst hs1;have hb:=qo (P:=P) (w:=w) true L.length cap hc (lo.map a.eval) (hi.map a.eval) l h h0 h1 h2 hlo hhi;by_cases hml:cap=l.toNat
  ·subst hml
   refine⟨.slice (some ⟨b,off,none⟩) (h.toNat-l.toNat) (l.toNat-l.toNat),?_,?_⟩
   ·simp only[Yd,execOp,ho,hv,Sem.run_bind,Option.map_none,hne]
    simp[Instr.slice,run_underlying ht,hb,sizeOf,typeInfo,hi']
   ·have:(L.take h.toNat).drop l.toNat=[]:=List.eq_nil_of_length_eq_zero (by omega)
    have hr2:Rd w A (.slice (some ⟨b,off,none⟩) ([]:List D).length (l.toNat-l.toNat)) (.slice z []):=Rd.slice hA (by simp) (by omega) hz hzz (by simp) (fun _=>undef) (by simp[cellAt]) (by simp[cellAt]);rw[<-hlen,this];exact hr2
  ·have hml':¬cap=l.toNat:=hml
   refine⟨.slice (some ⟨b,off+l.toNat*inf.size,none⟩) (h.toNat-l.toNat) (cap-l.toNat),?_,?_⟩
   ·simp only[Yd,execOp,ho,hv,Sem.run_bind,Option.map_none,hne]
    have hadd:(⟨b,off,none⟩:Addr).add (l.toNat*inf.size)=⟨b,off+l.toNat*inf.size,none⟩:=by unfold Addr.add;split<;>simp_all
    simp[Instr.slice,run_underlying ht,hb,sizeOf,typeInfo,hi',hml',hadd]
   ·rw[hiz,<-hlen]
    refine Rd.slice hA (by omega) (by omega) hz hzz (fun y hy=>hsz y (List.mem_of_mem_take (List.mem_of_mem_drop hy))) (fun j=>vs (l.toNat*1+j)) (fun j y hy=>?_) (fun j y hy=>?_)
    ·have:=hcells _ _ (yt hz hy)
     rwa [<-Nat.add_assoc] at this
    ·exact hr _ _ (yt hz hy)
theorem Ry{t e:TypeId}{x:Operand}{hi:Option Operand}(ho:o.op=.slice t x none hi none)(ht:P.underlying t=some (.slice e)){inf:TypeInfo}(hi':P.info? e=some inf)
  {q:Option Addr} {m c:Nat} (hv:a.eval x=.slice q m c) (hmc:m<=c) (hq:q=none->c=0) {h:Int} (h0 : 0<=h) (h1:h<=m)
  (hhi:(hi.map a.eval=none/\h=m)\/∃k,hi.map a.eval=some (.int k h)):Yd P o a w (.slice q h.toNat c):=by
 have hne:(Instr.sliceAt t (.slice q m c) none (hi.map a.eval) none).run P w=(Instr.slice t (.slice q m c) none (hi.map a.eval) none).run P w:=by
  simp[Instr.sliceAt,run_underlying ht]
 have hb:=qo (P:=P) (w:=w) true m c hmc none (hi.map a.eval) 0 h (Int.le_refl _) h0 h1 (.inl ⟨rfl,rfl⟩) hhi;cases q with
 | none =>
  have e1:=hq rfl;subst e1;have e2:m=0:=by omega
  subst e2;have e3:h=0:=by omega
  subst e3;simp only[Yd,execOp,ho,hv,Sem.run_bind,Option.map_none,hne];simp[Instr.slice,run_underlying ht,hb,sizeOf,typeInfo,hi']
 | some p =>
  have hadd:p.add 0=p:=by unfold Addr.add;simp
  by_cases hc0:c=0
  ·subst hc0
   simp only[Yd,execOp,ho,hv,Sem.run_bind,Option.map_none,hne];simp[Instr.slice,run_underlying ht,hb,sizeOf,typeInfo,hi']
  ·simp only[Yd,execOp,ho,hv,Sem.run_bind,Option.map_none,hne]
   simp[Instr.slice,run_underlying ht,hb,sizeOf,typeInfo,hi',hc0,hadd]
end
end Go.D3
