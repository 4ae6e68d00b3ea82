/- PIECES OF PURE OPERATIONS: cells, struct literals, comparisons of structs, slices of views, function values. Generic. -/
import Derived.Test.YtpjbamibcngihaaGreatDoorHA
import Derived.Attr
import Derived.Laws.Entries
import Derived.Laws.Tables
import Derived.Laws.MakeOwn
import Derived.Laws.Cells
import Derived.Laws.StructEq
import Derived.Orders
namespace Go.D3
open Go
structure St where
 env:List D
 n:Nat
 tmp:List D
def nth:List D->Nat->D
 | [],_=>.dead
 | a::_,0=>a
 | _::l,i+1=>nth l i
def ej:List D->Nat->D->List D
 | [],_,_=>[]
 | _::l,0,x=>x::l
 | a::l,i+1,x=>a::ej l i x
def St.cont(st:St)(k:Nat):D:=if k<1000 then nth st.env k else if k<1000+st.n then nth st.tmp (999+st.n-k) else .dead
def St.put(st:St)(k:Nat)(c:D):St:=if k<1000 then⟨ej st.env k c,st.n,st.tmp⟩ else if k<1000+st.n then⟨st.env,st.n,ej st.tmp (999+st.n-k) c⟩ else st
def St.push(st:St)(c:D):St:=⟨st.env,st.n+1,c::st.tmp⟩
def St.kill(st:St)(q:D->Bool):St:=⟨eu q st.env,st.n,eu q st.tmp⟩
def St.rd(st:St):X->D
 | .t i=>cu (1000+i) (st.cont (1000+i))
 | .v j=>cu j (st.cont j)
 | .i n=>.int .i64 n
 | .k d=>d
 | .g n=>(gl n).getD .dead
def aW(k:Nat):D->Bool
 | .sub j _=>j == k
 | .aw j _=>j == k
 | _=>false
def fh:D->Bool
 | .sub j _=>decide (1000<=j)
 | .aw j _=>decide (1000<=j)
 | _=>false
def D.hole(c:D)(p:Path):D:=c.setAt p (cW c p)
def D.o?:D->Option D
 | .o x=>some x
 | _=>none
def D.cP:D->Bool
 | .int _ _ | .bool _ | .str _=>true
 | _=>false
def jN:List D->Bool
 | []=>true
 | x::r=>x.cP&&jN r
def gh(f:D->Option D):List D->Option (List D)
 | []=>some []
 | x::r=>(f x).bind fun y=>(gh f r).bind fun l=>some (y::l)
def D.fE:D->Option D
 | .int k n=>some (.int k n)
 | .bool b=>some (.bool b)
 | .str s=>some (.str s)
 | .bp=>some .bp
 | .slice z l=>some (.vw (.slice z l))
 | .ptr l=>some (.vw (.ptr l))
 | .aB z=>some (.slice z [])
 | _=>none
def D.pP:D->Option D
 | .agg l=>(gh D.fE l).bind fun l'=>some (.agg l')
 | x=>x.fE
def D.ja:D->Option D
 | .o x=>some x
 | .row z l=>(gh D.pP l).bind fun l'=>some (.slice z l')
 | _=>none
def cX{α:Type}(x:Option α)(K:α->Prop):Prop :=
 match x with
 | some a=>K a
 | none=>False
def eI(k:Nat)(p:Path)(K:D->St->Prop)(st:St):Prop :=
 match p with
 | []=>cX (st.cont k).ja fun x=>K x ((st.kill (aW k)).put k .dead)
 | s::p=>K ((st.cont k).bm (s::p)) ((st.kill (bL k (s::p))).put k (((st.kill (bL k (s::p))).cont k).hole (s::p)))
def lN(k:Nat)(p:Path):D->Prop
 | .sub j q=>j≠k\/apart p q=true
 | .aw j q=>j≠k\/apart p q=true
 | _=>True
def mS(r:List D):D->Prop
 | .sub k p=>bK (lN k p) r
 | _=>True
mutual
def aD:D->(D->St->Prop)->St->Prop
 | .int k n,K,st=>K (.int k n) st
 | .bool b,K,st=>K (.bool b) st
 | .str s,K,st=>K (.str s) st
 | .bp,K,st=>K .bp st
 | .fn f [],K,st=>K (.fn f []) st
 | .fn f (c::r),K,st=>(D.fn f (c::r)).refs (fun _=>False)/\K (.vw (.fn f (c::r))) st
 | .sub k p,K,st=>eI k p K st
 | .agg l,K,st=>cV l (fun l' st=>K (.agg l') st) st
 | .slice z l,K,st=>K (.vw (.slice z l)) st
 | .ptr l,K,st=>K (.vw (.ptr l)) st
 | .aB z,K,st=>K (.slice z []) st
 | .bO,K,st=>K .bO st
 | .bj,K,st=>K .bj st
 | .bD t x,K,st=>K (.bD t x) st
 | _,_,_=>False
def cV:List D->(List D->St->Prop)->St->Prop
 | [],K,st=>K [] st
 | x::r,K,st=>x.refs (mS r)/\aD x (fun x' st=>cV r (fun r' st=>K (x'::r') st) st) st
end
theorem WL{k:Nat}{p:Path}{K K':D->St->Prop}(hK:∀x st,K x st->K' x st){st:St}(h:eI k p K st):eI k p K' st:=by
 cases p with
 | nil =>
  simp only[eI] at h|-
  cases hc:(st.cont k).ja with
  | none=>rw[hc] at h;exact h.elim
  | some x=>rw[hc] at h;exact hK _ _ h
 | cons s p=>simp only[eI] at h|-;exact hK _ _ h
mutual
theorem Lm:∀(d:D){K K':D->St->Prop}(_:∀x st,K x st->K' x st){st:St},aD d K st->aD d K' st
 | .int _ _,K,K',hK,st,h=>by simp only[aD] at h|-;exact hK _ _ h
 | .bool _,K,K',hK,st,h=>by simp only[aD] at h|-;exact hK _ _ h
 | .str _,K,K',hK,st,h=>by simp only[aD] at h|-;exact hK _ _ h
 | .bp,K,K',hK,st,h=>by simp only[aD] at h|-;exact hK _ _ h
 | .fn _ [],K,K',hK,st,h=>by simp only[aD] at h|-;exact hK _ _ h
 | .slice _ _,K,K',hK,st,h=>by simp only[aD] at h|-;exact hK _ _ h
 | .ptr _,K,K',hK,st,h=>by simp only[aD] at h|-;exact hK _ _ h
 | .aB _,K,K',hK,st,h=>by simp only[aD] at h|-;exact hK _ _ h
 | .bO,K,K',hK,st,h=>by simp only[aD] at h|-;exact hK _ _ h
 | .bj,K,K',hK,st,h=>by simp only[aD] at h|-;exact hK _ _ h
 | .bD _ _,K,K',hK,st,h=>by simp only[aD] at h|-;exact hK _ _ h
 | .mp _ _,K,K',hK,st,h=>by simp only[aD] at h
 | .bR _ _,K,K',hK,st,h=>by simp only[aD] at h
 | .eF _,K,K',hK,st,h=>by simp only[aD] at h
 | .pre _ _ _,K,K',hK,st,h=>by simp only[aD] at h
 | .sub k p,K,K',hK,st,h=>by simp only[aD] at h|-;exact WL hK h
 | .agg l,K,K',hK,st,h=>by simp only[aD] at h|-;exact vY l (fun _ _ h=>hK _ _ h) h
 | .fn _ (_::_),K,K',hK,st,h=>by simp only[aD] at h|-;exact⟨h.1,hK _ _ h.2⟩
 | .au _,K,K',hK,st,h=>by simp only[aD] at h
 | .vw _,K,K',hK,st,h=>by simp only[aD] at h
 | .o _,K,K',hK,st,h=>by simp only[aD] at h
 | .box _,K,K',hK,st,h=>by simp only[aD] at h
 | .row _ _,K,K',hK,st,h=>by simp only[aD] at h
 | .aw _ _,K,K',hK,st,h=>by simp only[aD] at h
 | .when _ _,K,K',hK,st,h=>by simp only[aD] at h
 | .dead,K,K',hK,st,h=>by simp only[aD] at h
theorem vY:∀(l:List D){K K':List D->St->Prop}(_:∀x st,K x st->K' x st){st:St},cV l K st->cV l K' st
 | [],K,K',hK,st,h=>by simp only[cV] at h|-;exact hK _ _ h
 | x::r,K,K',hK,st,h=>by simp only[cV] at h|-;exact⟨h.1,Lm x (fun _ _ h=>vY r (fun _ _ h=>hK _ _ h) h) h.2⟩
end
def aV:D->D
 | .vw (.slice z l)=>.slice z l
 | .vw (.ptr l)=>.ptr l
 | .vw (.agg l)=>.agg l
 | .vw (.fn f l)=>.fn f l
 | .vw (.mp ks vs)=>.mp ks vs
 | .vw (.au l)=>.au l
 | .vw _=>.dead
 | .int k n=>.int k n
 | .bool b=>.bool b
 | .str s=>.str s
 | .bp=>.bp
 | .fn f l=>.fn f l
 | .dead=>.dead
 | .bO=>.bO
 | .bj=>.bj
 | .bD t x=>.bD t x
 | d=>.o d
def qa(z:D):List D->Bool
 | []=>true
 | x::r=>decide (x.cells.length=z.cells.length)&&qa z r
def bh(ob:Nat->D):Nat->D->Option D
 | 0,_=>none
 | n+1,d=>match d with
  | .sub k p=>(lk ob k).bind fun c=>match c with
   | .row z l=>(gh (bh ob n) l).bind fun l'=>if qa z l'=true then some (.slice z l') else none
   | c=>if(c.bm p).isAgg=true then none else some (c.bm p)
  | .pre k p m=>(lk ob k).bind fun c=>match c with
   | .row _ _=>none
   | c=>match c.bm p with
    | .slice z l=>some (.slice z (l.take m))
    | _=>none
  | .aw k p=>(lk ob k).bind fun c=>match c,p with
   | .box l,[(_,off)]=>(gh (bh ob n) l).bind fun l'=>some (.ptr (l'.drop off))
   | .o (.ptr l),[(_,off)]=>some (.ptr (l.drop off))
   | _,_=>none
  | .agg l=>(gh (bh ob n) l).bind fun l'=>some (.agg l')
  | .o x=>some x
  | .aB z=>some (.slice z [])
  | .au _=>none
  | .dead=>none
  | .when _ _=>none
  | .box _=>none
  | .row _ _=>none
  | .fn f l=>(gh (bh ob n) l).bind fun l'=>some (.fn f l')
  | x=>some x
def gV(ob:Nat->D)(rd:X->D):List X->Option (List D)
 | []=>some []
 | x::r=>(bh ob 4 (rd x).core).bind fun y=>(gV ob rd r).bind fun l=>some (y::l)
def dT(rd:X->D):List X->Bool
 | []=>true
 | x::r=>(rd x).gate&&dT rd r
mutual
def D.ba:D->Bool
 | .vw _=>false
 | .bD _ _=>false
 | .slice _ l=>cB l
 | .agg l=>cB l
 | .au l=>cB l
 | .ptr l=>cB l
 | _=>true
def cB:List D->Bool
 | []=>true
 | x::r=>x.ba&&cB r
end
def eP:D->Prop:=fun _=>False
def jL(rd:X->D):List X->Prop
 | []=>True
 | x::r=>(rd x).core.refs eP/\jL rd r
def ky(g:Option Bool)(p:Prop):Prop :=
 match g with
 | none=>p
 | some b=>b=true->p
def oM(g:Option Bool)(v:D):D :=
 match g with
 | none=>v
 | some b=>.when b v
def D.c8:D->Bool
 | .o _ | .box _ | .row _ _ | .when _ _=>false
 | _=>true
def gH(r:Option PR)(g:Option Bool)(K:St->Prop)(st:St):Prop :=
 match r with
 | none=>g=some false/\K (st.push (.when false (.bool false)))
 | some (side,res)=>ky g side/\res.c8=true/\K (st.push (oM g res))
def fe(r:Option PR)(g:Option Bool)(K:St->Prop)(st:St):Prop :=
 match g,r with
 | none,some (side,c)=>side/\K (st.push c)
 | _,_=>False
def D.fF:D->Option D
 | .int k n=>some (.int k n)
 | .bool b=>some (.bool b)
 | .str s=>some (.str s)
 | .bp=>some .bp
 | .slice z l=>some (.slice z l)
 | .ptr l=>some (.ptr l)
 | .aB z=>some (.slice z [])
 | .fn f []=>some (.fn f [])
 | .mp ks vs=>some (.mp ks vs)
 | .bO=>some .bO
 | .bj=>some .bj
 | .bD t x=>some (.bD t x)
 | _=>none
def om:List D->Bool
 | []=>true
 | x::r=>x.pc&&om r
def wA(n:Nat)(x:D):Option PR:=x.core.cellsOf.bind fun l=>some ((x.gate=true/\0<n/\om l=true)/\l.length=n,.box l)
def wC(n:Nat)(x:D):Option PR:=x.core.cellsOf.bind fun l=>(gh D.fF l).bind fun l'=>some (x.gate=true/\l.length=n,.ptr l')
def xX(z:D)(bytes:Nat)(l c:D):Option PR :=
 l.core.int?.bind fun a=>c.core.int?.bind fun b=>some ((l.gate=true/\c.gate=true)/\0<=a/\a<=b/\bytes*b<=281474976710656,.o (.slice z (List.replicate a.toNat z)))
def lY(rd:X->D)(sz:Nat):List D->List (Nat×X)->Option (Bool×List D)
 | es,[]=>some (true,es)
 | es,(i,x)::r=>(rd x).core.cellsOf.bind fun l =>
  if l.length=sz/\i<es.length/\om l=true then(lY rd sz (ej es i (rd x).core) r).bind fun p=>some ((rd x).gate&&p.1,p.2) else none
def four:List D->Bool
 | []=>false
 | [_]=>false
 | [_,_]=>false
 | [_,_,_]=>false
 | _::_::_::_::_=>true
def zz:Bool->D->List D->D
 | true,z,l=>.o (.slice z l)
 | false,z,l=>.row z l
def qy(rd:X->D)(z:D)(n:Nat)(parts:List (Nat×X)):Option PR :=
 match n,parts with
 | 0,[]=>some (True,.o (.slice z []))
 | 0,_=>none
 | n+1,parts=>(lY rd z.cells.length (List.replicate (n+1) z) parts).bind fun p=>some (p.1=true,zz (four p.2&&jN p.2) z p.2)
def zy(x:D):Option PR:=x.core.ng.bind fun s=>some (x.gate=true,.o (.bR s 0))
def wU(x:D):Option PR:=x.core.ng.bind fun s=>some (x.gate=true/\s.length<=140737488355328,.o (qD s))
def bY(k:Kp)(rd:X->D):Option PR :=
 match k with
 | .fZ x=>wU (rd x)
 | .box n x=>wA n (rd x)
 | .fv n x=>wC n (rd x)
 | .cw zs=>some (zs≠[],.box zs)
 | .ak z bytes l c=>xX z bytes (rd l) (rd c)
 | .aR z n parts=>qy rd z n parts
 | .gi=>some (True,.o (.mp [] []))
 | .eL x=>zy (rd x)
 | _=>none
def ij(P:Program)(f:FuncId):Bool:=match P.funcs[f]? with
 | some fn=>fn.body.isSome&&!(fn.name == "runtime.NumGoroutine")
 | none=>false
def bM(P:Program)(f:FuncId)(as gs:List D)(Q:D->List D->Prop):Prop :=
 ij P f=true/\∀(w:World)(A:Nat->Prop)(vs:Array Value)(gv:Nat->Value)(Fs:Nat->Nat->Prop),eX w A->(∀b,A b->b<w.heap.size)->vs.size=as.length ->
  (∀(j:Nat)(a:D),as[j]?=some a->Pl w A (aj w (nth gs) gv) (vs.getD j undef) a) ->
  (∀k,aK w A (aj w (nth gs) gv) (gv k) (Fs k) (nth gs k))->(∀k,(nth gs k).isObj=false->∀b,¬Fs k b) ->
  (∀i j b,i≠j->Fs i b->¬Fs j b)->(∀k b,Fs k b->b<w.heap.size/\¬A b) ->
  Calls P f vs w fun e w'=>∃(rc:D)(gs':List D)(v:Value)(F:Nat->Prop)(gv':Nat->Value)(Fs':Nat->Nat->Prop),Q rc gs'/\e=.returned v/\w.heap.size<=w'.heap.size /\
   aK w' (fun b=>A b\/(w.heap.size<=b/\b<w'.heap.size/\¬F b/\∀j,¬Fs' j b)) (aj w' (nth gs') gv') v F rc/\(rc.isObj=false->∀b,¬F b) /\
   (∀k,aK w' (fun b=>A b\/(w.heap.size<=b/\b<w'.heap.size/\¬F b/\∀j,¬Fs' j b)) (aj w' (nth gs') gv') (gv' k) (Fs' k) (nth gs' k))/\(∀k,(nth gs' k).isObj=false->∀b,¬Fs' k b) /\
   (∀k,nth gs k≠.dead->gv' k=gv k) /\
   (∀b,F b->b<w'.heap.size/\(w.heap.size<=b\/∃j,Fs j b)/\∀j,¬Fs' j b)/\(∀j b,Fs' j b->b<w'.heap.size/\(w.heap.size<=b\/∃j,Fs j b))/\(∀i j b,i≠j->Fs' i b->¬Fs' j b) /\
   (∀b,b<w.heap.size->(∀j,¬Fs j b)->w'.heap[b]?=w.heap[b]?)/\w'.os=w.os/\w'.tape=w.tape/\w'.output=w.output
def fV(P:Program)(f:FuncId)(as gs:List D)(rc:D)(gs':List D):Prop:=bM P f as gs fun r g=>r=rc/\g=gs'
theorem bM.imp{P:Program}{f:FuncId}{as gs:List D}{Q Q':D->List D->Prop}(h:bM P f as gs Q)(hQ:∀r g,Q r g->Q' r g):bM P f as gs Q' :=
 ⟨h.1,fun w A vs gv Fs h0 h1 h2 h3 h4 h5 h6 h7=>(h.2 w A vs gv Fs h0 h1 h2 h3 h4 h5 h6 h7).mono fun _ _ ⟨rc,gs',v,F,gv',Fs',q,r⟩=>⟨rc,gs',v,F,gv',Fs',hQ _ _ q,r⟩⟩
def vT(P:Program)(f:FuncId)(as gs:List D)(rc:D):Prop :=
 ij P f=true/\∀(w:World)(A:Nat->Prop)(vs:Array Value)(gv:Nat->Value)(Fs:Nat->Nat->Prop),eX w A->(∀b,A b->b<w.heap.size)->vs.size=as.length ->
  (∀(j:Nat)(a:D),as[j]?=some a->Pl w A (aj w (nth gs) gv) (vs.getD j undef) a) ->
  (∀k,aK w A (aj w (nth gs) gv) (gv k) (Fs k) (nth gs k))->(∀k,(nth gs k).isObj=false->∀b,¬Fs k b) ->
  (∀i j b,i≠j->Fs i b->¬Fs j b)->(∀k b,Fs k b->b<w.heap.size/\¬A b) ->
  Calls P f vs w fun e w'=>∃v:Value,e=.returned v/\w.heap.size<=w'.heap.size/\(∀b,b<w.heap.size->w'.heap[b]?=w.heap[b]?) /\
   Pl w' (fun b=>A b\/(w.heap.size<=b/\b<w'.heap.size)) (aj w (nth gs) gv) v rc/\w'.os=w.os/\w'.tape=w.tape/\w'.output=w.output
mutual
def D.tight:D->Bool
 | .int _ _=>true
 | .bool _=>true
 | .str _=>true
 | .bp=>true
 | .aB _=>true
 | .dead=>true
 | .sub _ _=>true
 | .aw _ _=>true
 | .fn _ l=>kJ l
 | .agg l=>kJ l
 | .au l=>kJ l
 | _=>false
def kJ:List D->Bool
 | []=>true
 | x::r=>x.tight&&kJ r
end
def D.qb:D->Bool
 | .o x=>x.ba
 | c=>c.tight
def qc:List D->Bool
 | []=>true
 | x::r=>x.qb&&qc r
def D.iZ:D->Bool
 | .box l=>qc l
 | .row _ l=>kJ l
 | c=>c.qb
def kK:List D->Bool
 | []=>true
 | x::r=>x.iZ&&kK r
class KH where
 k:St->Prop
def D.DW:D->D
 | .vw d=>d
 | d=>d
def D.DX:D->D
 | .agg l=>.agg (l.map D.DW)
 | d=>d
theorem Tx{w:World}{A:Nat->Prop}{v:Value}{d:D}(h:Rd w A v d):Rd w A v d.DW:=by
 cases d<;>first | exact h | (cases h;assumption)
theorem Tz{w:World}{A:Nat->Prop}{v:Value}{d:D}(h:Rd w A v d):Rd w A v d.DX:=by
 cases d with
 | agg l =>
  cases h with
  | agg hs hr =>
   refine .agg (by rw[List.length_map];exact hs) fun j x hx=>?_
   rw[List.getElem?_map,Option.map_eq_some_iff] at hx;obtain⟨y,hy,rfl⟩:=hx;exact Tx (hr j y hy)
 | _=>exact h
def wK(g:Option Bool)(res c:D):Prop :=
 match g with
 | none=>c=aV res\/c=aV (.vw res)
 | some b=>c=.when b res\/c=.when b res.DX
def nD(P:Program)(f:FuncId)(ds:Option (List D))(gt:Bool)(pl:Prop)(g:Option Bool)[K:KH](st:St):Prop :=
 ∃l res c,ds=some l/\ky g (gt=true/\aC P f (l.map .v) res/\(res.ba=true\/pl))/\wK g res c/\K.k (st.push c)
def D.xj(c:D)(p:Path)(y:D):D:=c.setAt p (if bz c p=true then .o y else y)
def ph(x:D)(r:List D)(y:D)(K:St->Prop)(st:St):Prop :=
 match x with
 | .sub k (s::p)=>y.isAgg=false/\bK (fun d=>bL k (s::p) d=false) r/\K ((st.kill (bL k (s::p))).put k (((st.kill (bL k (s::p))).cont k).xj (s::p) y))
 | _=>K st
def gB:List D->List D->(St->Prop)->St->Prop
 | [],[],K,st=>K st
 | x::r,y::ys,K,st=>ph x r y (gB r ys K) st
 | _,_,_,_=>False
def tE(P:Program)(f:FuncId)(d:D)(ds:Option (List D))(gt:Bool)(pl:Prop)(g:Option Bool)[K:KH](st:St):Prop :=
 g=none/\gt=true/\pl/\∃dl,ds=some dl/\match d with
  | .aw k [(0,0)]=>∃l l' res,st.cont k=.box l/\bK eP l/\bK eP l'/\l'.length=l.length/\aC P f (.io (.box l) (.box l')::dl.map .v) res/\K.k (((st.kill (bN k [(0,0)])).put k (.box l')).push (aV res))
  | .sub k []=>∃x y res,st.cont k=.o x/\aC P f (.io (.o x) (.o y)::dl.map .v) res/\K.k (((st.kill (bL k [])).put k (.o y)).push (aV res))
  | .sub k (s::p)=>cV [.sub k (s::p)] (fun l st=>∃x y res,l=[x]/\aC P f (.io (.o x) (.o y)::dl.map .v) res/\gB [.sub k (s::p)] [y] (fun st=>K.k (st.push (aV res))) st) st
  | .agg l=>cV l (fun xs st=>∃ys res,aC P f (.io (.o (.agg xs)) (.o (.agg ys))::dl.map .v) res/\gB l ys (fun st=>K.k (st.push (aV res))) st) st
  | _=>False
def sg(n:Nat)(js:List Nat)(i:Nat):Nat:=(js[i]?).getD (1000+n+i)
def km(st:St)(σ:Nat->Nat):List Nat->List D->Prop
 | [],[]=>True
 | j::js,g::gs=>st.cont j=g.ax σ/\km st σ js gs
 | _,_=>False
def jU(st:St)(σ:Nat->Nat)(js:List Nat)(tg:Bool):List D->List D->Prop
 | [],[]=>True
 | d::ds,a::as=>(d=a.ax σ\/(tg=true/\bh (fun k=>if js.contains k=true then .dead else st.cont k) 4 d=some a))/\jU st σ js tg ds as
 | _,_=>False
def vh:D->D->Bool
 | .o _,.o _=>true
 | _,_=>false
def rX:D->D->Bool
 | .box l,.box l'=>l.length == l'.length
 | _,_=>false
def ow(j:Nat)(g h:D):D->Bool
 | .sub k p=>k == j&&!(p.isEmpty&&vh g h)
 | .aw k p=>k == j&&!(p.length == 1&&rX g h)
 | _=>false
def qG:List Nat->List D->List D->D->Bool
 | j::js,g::gs,h::hs,d=>ow j g h d || qG js gs hs d
 | _,_,_,_=>false
def gk(σ:Nat->Nat)(st:St):List Nat->List D->St
 | j::js,h::hs=>gk σ (st.put j (h.ax σ)) js hs
 | _,_=>st
def kq:List D->List D->Prop
 | [],[]=>True
 | g::gs,h::hs=>(g=.dead->h=.dead)/\kq gs hs
 | _,_=>False
def Eu(P:Program)(f:FuncId)(ds:List D)(st:St)(K:D->St->Prop):Prop :=
 ∃(js:List Nat)(tg:Bool)(as gs:List D)(Q:D->List D->Prop),bM P f as gs Q/\(js.Nodup/\js.all (fun j=>decide (j<1000+st.n))=true)/\km st (sg st.n js) js gs/\jU st (sg st.n js) js tg ds as /\
  ∀rc gs',Q rc gs'->kq gs gs'/\(tg=true->rc.iZ=true/\kK gs'=true)/\K (rc.ax (sg st.n js)) (gk (sg st.n js) (st.kill (qG js gs gs')) js gs')
def nL(P:Program)(f:FuncId)(ds:List D)(gt:Bool)(gd:Bool)[K:KH](st:St):Prop :=
 gt=true/\Eu P f ds st fun c st=>(gd=true->c.c8=true)/\K.k (st.push (if gd=true then .when true c else c))
def kS(P:Program)(x:D)(ds:List D)(gt:Bool)(gd:Bool)[KH](st:St):Prop :=
 match x with
 | .fn f caps=>nL P f (ds++caps) gt gd st
 | _=>False
def jm(P:Program)(x:D)(ds:List D)(gt:Bool)(g:Option Bool)[K:KH](st:St):Prop :=
 match g with
 | none=>kS P x ds gt false st
 | some true=>kS P x ds gt true st
 | some false=>K.k (st.push (.when false (.bool false)))
def fj(rd:X->D):List X->List D
 | []=>[]
 | x::r=>(rd x).core::fj rd r
theorem MV{P:Program}{f:FuncId}{ds:List D}{K:St->Prop}{st:St}{as gs gs':List D}{rc:D}(js:List Nat)(tg:Bool)(hR:fV P f as gs rc gs')(hn:js.Nodup/\js.all (fun j=>decide (j<1000+st.n))=true)(hl:km st (sg st.n js) js gs)(ha:jU st (sg st.n js) js tg ds as)
  (hw:kq gs gs') (ht:tg=true->rc.iZ=true/\kK gs'=true) (hK:K ((gk (sg st.n js) (st.kill (qG js gs gs')) js gs').push (rc.ax (sg st.n js)))):@nL P f ds true false ⟨K⟩ st :=
 ⟨rfl,js,tg,as,gs,_,hR,hn,hl,ha,fun _ _ h=>by obtain⟨rfl,rfl⟩:=h;exact⟨hw,ht,fun h=>(by cases h),hK⟩⟩
theorem MF{P:Program}{f:FuncId}{ds:List D}{K:St->Prop}{st:St}{as gs:List D}{Q:D->List D->Prop}(js:List Nat)(tg:Bool)(hR:bM P f as gs Q)(hn:js.Nodup/\js.all (fun j=>decide (j<1000+st.n))=true)(hl:km st (sg st.n js) js gs)(ha:jU st (sg st.n js) js tg ds as)
  (hK:∀rc gs',Q rc gs'->kq gs gs'/\(tg=true->rc.iZ=true/\kK gs'=true)/\K ((gk (sg st.n js) (st.kill (qG js gs gs')) js gs').push (rc.ax (sg st.n js)))):@nL P f ds true false ⟨K⟩ st :=
 ⟨rfl,js,tg,as,gs,_,hR,hn,hl,ha,fun _ _ h=>⟨(hK _ _ h).1,(hK _ _ h).2.1,fun h=>(by cases h),(hK _ _ h).2.2⟩⟩
def sj(js:List Nat)(i:Nat):Nat:=(js[i]?).getD 0
def fb(n:Nat):D->Prop
 | .sub k _=>k<n
 | .aw k _=>k<n
 | _=>True
def pF(ob:Nat->D)(σ:Nat->Nat):List Nat->List D->Prop
 | [],[]=>True
 | j::js,g::gs=>(j<1000/\ob j=g.ax σ)/\pF ob σ js gs
 | _,_=>False
def sK(σ:Nat->Nat):List D->List D->Prop
 | [],[]=>True
 | d::ds,a::as=>d=a.ax σ/\sK σ ds as
 | _,_=>False
def nr(P:Program)(f:FuncId)(ob:Nat->D)(ds:List D)(c:D):Prop :=
 ∃(js:List Nat)(as gs:List D)(rc:D),vT P f as gs rc/\js.Nodup/\pF ob (sj js) js gs/\sK (sj js) ds as/\(bK (fb js.length) as/\bK (fb js.length) gs/\rc.refs (fb js.length))/\rc.c8=true/\c=rc.ax (sj js)
def Dm(P:Program)(f:FuncId)(ds:List D)[K:KH](st:St):Prop:=∃c,nr P f st.cont ds c/\K.k (st.push c)
theorem E2{P:Program}{f:FuncId}{ds:List D}{K:St->Prop}{st:St}{as gs:List D}{rc:D}(js:List Nat)(hR:vT P f as gs rc)(hn:js.Nodup)(hl:pF st.cont (sj js) js gs)(ha:sK (sj js) ds as)
  (hr:bK (fb js.length) as/\bK (fb js.length) gs/\rc.refs (fb js.length)) (ho:rc.c8=true) (hK:K (st.push (rc.ax (sj js)))):@Dm P f ds ⟨K⟩ st :=
 ⟨_,⟨js,as,gs,rc,hR,hn,hl,ha,hr,ho,rfl⟩,hK⟩
def jX(d:D)(K:D->St->Prop)(st:St):Prop :=
 match d with
 | .aw j [(0,0)]=>((st.kill (aW j)).cont j).isObj=true/\(st.cont j).gY=false/\K ((st.kill (aW j)).cont j) ((st.kill (aW j)).put j .dead)
 | _=>False
def lO(j:Nat)(x:D)(K:St->Prop)(st:St):Prop :=
 aD x (fun d st=>K (((st.kill (aW j)).put j (aV d)).push .dead)) st
def D.mL:D->Bool
 | .o _ | .box _ | .row _ _ | .when _ _ | .dead=>false
 | _=>true
def oX(j:Nat)(x:D)(K:St->Prop)(st:St):Prop :=
 x.refs (cG j)/\x.mL=true/\K (((st.kill (aW j)).put j x).push .dead)
def jQ:Path->Path
 | []=>[]
 | [_]=>[]
 | s::t::r=>s::jQ (t::r)
def mo:Path->Bool
 | []=>false
 | [s]=>s.1 == 0&&s.2 == 0
 | _::t::r=>mo (t::r)
def D.tH:D->Bool
 | .ptr _=>true
 | _=>false
def kO(j:Nat)(x:D)(K:St->Prop)(st:St):Prop :=
 match x with
 | .aw k q=>mo q=true/\eI k (jQ q) (fun d st=>d.tH=true/\K (((st.kill (aW j)).put j (aV d)).push .dead)) st
 | x=>lO j x K st
theorem Fb:∀{q:Path},mo q=true->q=jQ q++[(0,0)]
 | [],h=>by cases h
 | [(a,b)],h=>by
  simp only[mo,Bool.and_eq_true,beq_iff_eq] at h;rw[h.1,h.2];rfl
 | s::t::r,h=>by
  have:=Fb (q:=t::r) h;show s::t::r=s::(jQ (t::r)++[(0,0)]);rw[<-this]
def zF(k:Nat)(p:Path):D->Prop
 | .sub j q=>j≠k\/(q≠[]/\gC q p=false)
 | _=>True
def ez(c:D)(p:Path):Nat->List D->D
 | _,[]=>c
 | j,y::r=>ez (c.setAt (bump p j) (if bz c (bump p j)=true then aV y else y)) p (j+1) r
def mF(c:D)(p:Path):Nat->List D->Prop
 | _,[]=>True
 | j,y::r=>c.aX (bump p j)/\y.isAgg=false/\mF c p (j+1) r
def jO(n:Nat)(a x:D)(K:St->Prop)(st:St):Prop :=
 match a with
 | .aw k p=>cX x.cellsOf fun l=>l.length=n/\bK (zF k p) l/\cV l (fun l' st=>mF ((st.kill (bN k p)).cont k) p 0 l' /\
    K (((st.kill (bN k p)).put k (ez ((st.kill (bN k p)).cont k) p 0 l')).push .dead)) st
 | _=>False
def D.gL:D->Bool
 | .int _ _ | .bool _ | .str _ | .bp | .slice _ _ | .ptr _ | .aB _ | .sub _ _ | .aw _ _=>true
 | _=>false
def oC:List D->Bool
 | []=>true
 | x::r=>x.gL&&oC r
def D.qB:D->Option (List D)
 | .box l=>some l
 | _=>none
def nf(n:Nat)(a x:D)(K:St->Prop)(st:St):Prop :=
 match a with
 | .aw k p=>p=[(0,0)]/\cX (st.cont k).qB fun l0=>l0.length=n/\cX x.cellsOf fun l=>l.length=n/\oC l=true/\bK (fun d=>bN k [(0,0)] d=false) l /\
   K (((st.kill (bN k [(0,0)])).put k (.box l)).push .dead)
 | _=>False
def D.il:D->Option (List D)
 | .slice _ l=>some l
 | .aB _=>some []
 | _=>none
def mZ(st:St)(x:D):Option (List D) :=
 match x with
 | .sub k p=>(lk st.cont k).bind fun c=>(c.bm p).il
 | x=>x.il
def D.dQ(y:D)(M:List D):D :=
 match y with
 | .slice z L=>.slice z (L++M)
 | y=>y
def D.row?:D->Option (List D)
 | .row _ l=>some l
 | _=>none
def isRow(st:St)(x:D):Option (List D) :=
 match x with
 | .sub k []=>(st.cont k).row?
 | _=>none
def gR(s:D)(K:D->St->Prop)(st:St):Prop :=
 match s with
 | .sub k p=>eI k p K st
 | .aB z=>K (.slice z []) st
 | _=>False
def sJ(st:St)(x:D):Option (List D ⊕ List D) :=
 match isRow st x with
 | some l=>some (.inl l)
 | none=>(mZ st x).bind fun M=>some (.inr M)
def rp(sz:Nat):List D->Prop
 | []=>True
 | e::r=>e.cells.length=sz/\rp sz r
def D.px:D->Bool
 | .slice _ _=>true
 | _=>false
def D.gF:D->Bool
 | .int _ _ | .bool _ | .str _ | .slice _ _ | .bp | .ptr _ | .mp _ _ | .bO | .bD _ _ | .bj=>true
 | _=>false
def oe:List D->Bool
 | []=>true
 | x::r=>x.gF&&oe r
def D.uh(sz:Nat)(e:D):Bool:=decide (e.cells.length=sz)&&oe e.cells
def D.pJ:D->Bool
 | .slice z _=>z.px || z.isAgg
 | _=>false
def D.xZ:D->Bool
 | .o x=>x.pJ
 | _=>false
def oc(st:St)(x:D):Option (Nat×Path) :=
 match x with
 | .sub k []=>if(st.cont k).xZ=true then some (k,[]) else none
 | .sub k (q::p)=>if((st.cont k).bm (q::p)).pJ=true then some (k,q::p) else none
 | _=>none
def nA(sz bytes:Nat)(s x:D)(K:St->Prop)(st:St):Prop :=
 match oc st x with
 | some k=>x.refs (mS [s])/\eI k.1 k.2 (fun y st=>y.gz=sz/\cX y.il fun M=>(∀e∈M,e.uh sz=true) /\
   gR s (fun y st=>y.gz=sz/\cX y.ck fun m=>(m+M.length)*bytes<=140737488355328/\K (st.push (.o (y.dQ M)))) st) st
 | none=>cX (sJ st x) fun src=>match src with
 | .inl l=>rp sz l/\bK (mS [s]) l/\cV l (fun M st=>gR s (fun y st=>y.gz=sz/\cX y.ck fun m=>(m+M.length)*bytes<=140737488355328/\K (st.push (.o (y.dQ M)))) st) st
 | .inr M=>(∀e∈M,e.cP=true)/\sz=1/\x.refs (mS [s])/\gR s (fun y st=>y.gz=sz/\cX y.ck fun m=>(m+M.length)*bytes<=140737488355328/\K (st.push (.o (y.dQ M)))) st
def gn:List D->List D->(List D->St->Prop)->St->Prop
 | done,[],K,st=>K done st
 | done,.sub k p::r,K,st=>bK (lN k p) (done++r)/\eI k p (fun x st=>gn (done++[aV x]) r K st) st
 | done,x::r,K,st=>x.pc=true/\gn (done++[x]) r K st
def o6(n:Nat)(x:D)(K:St->Prop)(st:St):Prop :=
 match x.cellsOf with
 | none=>False
 | some l=>(l.length=n/\0<n)/\gn [] l (fun l' st=>K (st.push (.box l'))) st
def oZ(z x:D)(K:St->Prop)(st:St):Prop :=
 match x.cellsOf with
 | none=>False
 | some l=>l.length=z.cells.length/\cV l (fun l' st=>K (st.push (.o (.slice z [.agg l'])))) st
def qI(d s:D)[K:KH](st:St):Prop :=
 match d with
 | .sub k (q::p)=>∃M,mZ st s=some M/\(∀e∈M,e.cP=true)/\cV [.sub k (q::p)] (fun l st=>∃z L,l=[.slice z L]/\(z.cells.length=1/\∀e∈L,e.cP=true) /\
   gB [.sub k (q::p)] [.slice z (M.take L.length++L.drop M.length)] (fun st=>K.k (st.push (.int .i64 (min M.length L.length:Nat)))) st) st
 | _=>False
def n9(kk:Nat)(m k v:D)[K:KH](st:St):Prop :=
 k.jA kk=true/\v.cP=true/\match m with
 | .sub j []=>cX ((st.cont j).o?.bind D.jE) fun e=>cX (fC k e.1) fun r=>e.1.length<maxLen/\K.k ((st.put j (.o (.mp (cU k v e.1 e.2 r).1 (cU k v e.1 e.2 r).2))).push .dead)
 | .sub j (s::p)=>cV [.sub j (s::p)] (fun l st=>cX ((l.head?).bind D.jE) fun e=>cX (fC k e.1) fun r=>e.1.length<maxLen /\
   gB [.sub j (s::p)] [.mp (cU k v e.1 e.2 r).1 (cU k v e.1 e.2 r).2] (fun st=>K.k (st.push .dead)) st) st
 | _=>False
def cO(s:List UInt8)(p:Nat):Nat×Nat:=Utf8.decode ⟨s.toArray⟩ p
def D.qW:D->Option (List UInt8×Nat)
 | .o (.bR s p)=>some (s,p)
 | _=>none
def od(j:Nat)[K:KH](st:St):Prop :=
 cX (st.cont j).qW fun e=>(e.2<e.1.length->K.k ((st.put j (.o (.bR e.1 (e.2+(cO e.1 e.2).2)))).push (.au [.bool true,.int .i64 e.2,.int .i32 (cO e.1 e.2).1]))) /\
  (e.1.length<=e.2->K.k (st.push (.au [.bool false])))
def qO(kb:Nat):Nat->List D->Prop
 | _,[]=>True
 | j,d::r=>d.refs (cG kb)/\(cu j d).core.refs (cG kb)/\qO kb (j+1) r
def wx(sz bytes b s:Nat)(K:St->Prop)(st:St):Prop :=
 sz=1/\cX (st.cont (1000+s)).row? fun l=>jN l=true/\cX (st.cont (1000+b)).o? fun y=>y.gz=1/\cX y.ck fun m=>(m+l.length)*bytes<=140737488355328 /\
  qO (1000+b) 0 st.env/\bK (cG (1000+b)) st.tmp/\K ((st.put (1000+b) .dead).push (.o (y.dQ l)))
def bl(P:Program)(k:Kp)(g:Option Bool)(K:St->Prop)(st:St):Prop :=
 match k with
 | .bQ j x=>g=none/\(st.rd x).gate=true/\lO j (st.rd x).core K st
 | .jf j x=>g=none/\(st.rd x).gate=true/\oX j (st.rd x).core K st
 | .call f xs=>@nD P f (gV st.cont st.rd xs) (dT st.rd xs) (jL st.rd xs) g ⟨K⟩ st
 | .gw f xs=>g=none/\dT st.rd xs=true/\@Dm P f (fj st.rd xs) ⟨K⟩ st
 | .st a x=>g=none/\((st.rd a).gate&&(st.rd x).gate)=true/\jO 1 (st.rd a).core (st.rd x).core K st
 | .bE n a x=>g=none/\((st.rd a).gate&&(st.rd x).gate)=true/\jO n (st.rd a).core (st.rd x).core K st
 | .iD n a x=>g=none/\((st.rd a).gate&&(st.rd x).gate)=true/\nf n (st.rd a).core (st.rd x).core K st
 | .app sz bytes s x=>g=none/\((st.rd s).gate&&(st.rd x).gate)=true/\nA sz bytes (st.rd s).core (st.rd x).core K st
 | .ik f (x::r)=>@tE P f (st.rd x).core (gV st.cont st.rd r) (dT st.rd (x::r)) (jL st.rd r) g ⟨K⟩ st
 | .ik _ []=>False
 | .dyn x xs=>@jm P (st.rd x).core (fj st.rd xs) (dT st.rd (x::xs)) g ⟨K⟩ st
 | .kP n x=>g=none/\(st.rd x).gate=true/\o6 n (st.rd x).core K st
 | .bo x=>g=none/\(st.rd x).gate=true/\jX (st.rd x).core (fun c st=>K (st.push c)) st
 | .eB sz bytes b s=>g=none/\wx sz bytes b s K st
 | .jZ x y=>g=none/\((st.rd x).gate&&(st.rd y).gate)=true/\@qI (st.rd x).core (st.rd y).core ⟨K⟩ st
 | .lp kk m k v=>g=none/\((st.rd m).gate&&(st.rd k).gate&&(st.rd v).gate)=true/\@n9 kk (st.rd m).core (st.rd k).core (st.rd v).core ⟨K⟩ st
 | .lr j=>g=none/\@od j ⟨K⟩ st
 | .eL x=>fe (bY (.eL x) st.rd) g K st
 | .fZ x=>fe (bY (.fZ x) st.rd) g K st
 | .box n x=>fe (bY (.box n x) st.rd) g K st
 | .fv n x=>fe (bY (.fv n x) st.rd) g K st
 | .cw zs=>fe (bY (.cw zs) st.rd) g K st
 | .ak z b l c=>fe (bY (.ak z b l c) st.rd) g K st
 | .aR z n ps=>fe (bY (.aR z n ps) st.rd) g K st
 | .gi=>fe (bY .gi st.rd) g K st
 | .jh z x=>g=none/\(st.rd x).gate=true/\oZ z (st.rd x).core K st
 | .jg j x=>g=none/\(st.rd x).gate=true/\kO j (st.rd x).core K st
 | k=>gH (bJ k st.rd st.cont) g K st
def D.bool?:D->Option Bool
 | .bool b=>some b
 | _=>none
def gd(c:D)(want:Bool):Option Bool:=c.core.bool?.bind fun b=>some (c.gate&&(if want then b else !b))
def jw(v:Option Bool)(K:Bool->Prop):Prop :=
 match v with
 | some b=>K b
 | none=>False
def cf(P:Program)(K:St->Prop):List bd->St->Prop
 | [],st=>K st
 | ⟨none,k⟩::r,st=>bl P k none (cf P K r) st
 | ⟨some (j,want),k⟩::r,st=>jw (gd (st.rd (.t j)) want) fun b=>bl P k (some b) (cf P K r) st
structure Ex where
 ex:Nat->List D->Prop
 ret:List D->Prop
def iM(v:D)(A B:Prop):Prop :=
 match v with
 | .bool b=>(b=true->A)/\(b=false->B)
 | _=>False
def de:List Nat->St->St
 | [],st=>st
 | j::r,st=>de r ((st.kill (aW j)).put j .dead)
def jo:List (Nat×Nat)->St->St
 | [],st=>st
 | (j,i)::r,st=>jo r ((((st.kill (aW j)).kill (aW (1000+i))).put j ((((st.kill (aW j)).kill (aW (1000+i)))).cont (1000+i))).put (1000+i) .dead)
def yJ(i k:Nat)(x:Option D)(st:St):St :=
 match x with
 | some x=>(((st.kill (aW k)).put k .dead).kill (aW (1000+i))).put (1000+i) (aV x)
 | none=>st
def jK(i:Nat)(c:D)(st:St):St :=
 match c with
 | .sub k (s::p)=>if 1000<=k then(((st.kill (bL k (s::p))).put k (((st.kill (bL k (s::p))).cont k).hole (s::p))).kill (aW (1000+i))).put (1000+i) (aV ((st.cont k).bm (s::p))) else st
 | .sub k []=>if 1000<=k then yJ i k (st.cont k).ja st else st
 | _=>st
def iy:List (Nat×Nat)->St->St
 | [],st=>st
 | (_,i)::r,st=>iy r (jK i (st.cont (1000+i)) st)
def fin(post:List (Nat×Nat))(st:St):List D:=((jo post (iy post st)).kill fh).env
class LH where
 body:(List D->Prop)->Ex->List D->Prop
 E:Ex
def tY[h:LH](env:List D):Prop :=
 ∃(js:List Nat)(α:Type)(S:α->List D)(I:α->Prop)(μ:α->Nat)(x0:α),I x0/\(de js ⟨env,0,[]⟩).env=S x0/\∀x,I x->h.body (fun env'=>∃x',I x'/\μ x'<μ x/\(de js ⟨env',0,[]⟩).env=S x') h.E (S x)
def eU(env:List D):List (Nat×D)->List D
 | []=>env
 | (j,c)::r=>eU (ej env j c) r
theorem aE{body:(List D->Prop)->Ex->List D->Prop}{E:Ex}{env:List D}{α:Type}(js:List Nat)(f:α->List (Nat×D))(I:α->Prop)(μ:α->Nat)(x0:α){env0:List D}(h0:(de js ⟨env,0,[]⟩).env=env0)
  (hI:I x0) (he:env0=eU env0 (f x0)) (h:∀x,I x->body (fun env'=>∃x',I x'/\μ x'<μ x/\(de js ⟨env',0,[]⟩).env=eU env0 (f x')) E (eU env0 (f x))):@tY ⟨body,E⟩ env :=
 ⟨js,α,fun x=>eU env0 (f x),I,μ,x0,hI,by rw[h0];exact he,h⟩
theorem av{P:Program}{f:FuncId}{pl:Prop}{K:St->Prop}{st:St}{as:List Arg}{ds:List D}{res:D}(hR:aC P f as res)(ha:as=ds.map .v)(hn:res.ba=true\/pl)(hK:K (st.push (aV res))):@nD P f (some ds) true pl none ⟨K⟩ st :=
 ⟨ds,res,_,rfl,⟨rfl,ha▸hR,hn⟩,.inl rfl,hK⟩
theorem wM{P:Program}{f:FuncId}{pl:Prop}{K:St->Prop}{st:St}{as:List Arg}{ds:List D}{res:D}(hR:aC P f as res)(ha:as=ds.map .v)(hn:res.ba=true\/pl)(hK:K (st.push (aV (.vw res)))):@nD P f (some ds) true pl none ⟨K⟩ st :=
 ⟨ds,res,_,rfl,⟨rfl,ha▸hR,hn⟩,.inr rfl,hK⟩
theorem bt{P:Program}{f:FuncId}{gt:Bool}{pl:Prop}{K:St->Prop}{st:St}{as:List Arg}{ds:List D}{res:D}{b:Bool}(hR:b=true->aC P f as res)(ha:as=ds.map .v)(hgt:b=true->gt=true)(hn:res.ba=true\/pl)(hK:K (st.push (.when b res))) :
  @nD P f (some ds) gt pl (some b) ⟨K⟩ st:=⟨ds,res,_,rfl,fun hb=>⟨hgt hb,ha▸hR hb,hn⟩,.inl rfl,hK⟩
def qi(P:Program):RT->(List D->Prop)->St->Prop
 | .leaf l post,K,st=>cf P (fun st=>K (fin post st)) l st
 | .two _ _ _ a b,K,st=>qi P a K st/\qi P b K st
def bF(P:Program):C->(List D->Prop)->Ex->List D->Prop
 | .skip,K,_,env=>K env
 | .ops pre l post,K,_,env=>cf P (fun st=>K (fin post st)) l (de pre ⟨env,0,[]⟩)
 | .dp pre l post x a b,K,E,env=>cf P (fun st=>(st.rd x).gate=true/\iM (st.rd x).core (bF P a K E (fin post st)) (bF P b K E (fin post st))) l (de pre ⟨env,0,[]⟩)
 | .uD pre l post x a b c,K,E,env=>cf P (fun st=>(st.rd x).gate=true/\iM (st.rd x).core (bF P a (bF P c K E) E (fin post st)) (bF P b (bF P c K E) E (fin post st))) l (de pre ⟨env,0,[]⟩)
 | .seq a b,K,E,env=>bF P a (bF P b K E) E env
 | .cond x a b,K,E,env=>iM ((⟨env,0,[]⟩:St).rd x) (bF P a K E env) (bF P b K E env)
 | .block id c,K,E,env=>bF P c K ⟨fun i s=>if i=id then K s else E.ex i s,E.ret⟩ env
 | .loop c,_,E,env=>@tY ⟨bF P c,E⟩ env
 | .exit id,_,E,env=>E.ex id env
 | .ret,_,E,env=>E.ret env
 | .alt pre t,K,_,env=>qi P t K (de pre ⟨env,0,[]⟩)
theorem Xf{P:Program}{K:St->Prop}{st:St}:cf P K (oL []) st=K st:=rfl
theorem Xe{P:Program}{K:St->Prop}{k:Kp}{r:List Kp}{st:St}:cf P K (oL (k::r)) st=bl P k none (cf P K (oL r)) st:=rfl
theorem Xd{P:Program}{K:List D->Prop}{E:Ex}{l:List Kp}{env:List D}:bF P (.u l) K E env=cf P (fun st=>K (fin [] st)) (oL l) (de [] ⟨env,0,[]⟩):=rfl
theorem SU{P:Program}{K:St->Prop}{i:Nat}{g:Option Bool}{st:St}:bl P (.m i) g K st=bl P (.mv (.v i)) g K st:=rfl
theorem SV{P:Program}{K:St->Prop}{i:Nat}{g:Option Bool}{st:St}:bl P (.n i) g K st=bl P (.mv (.t i)) g K st:=rfl
theorem SS{P:Program}{K:St->Prop}{j i:Nat}{g:Option Bool}{st:St}:bl P (.a j i) g K st=bl P (.bQ j (.t i)) g K st:=rfl
end Go.D3
namespace Go.D3
open Go
def ae{α:Type}(f:α->D)(d:α)(l:List α):D:=.slice (f d) (l.map f)
abbrev ints(l:List Int):D:=ae (D.int .i64) 0 l
abbrev bytes(l:List Int):D:=ae (D.int .u8) 0 l
abbrev lQ(l:List Bool):D:=ae D.bool false l
abbrev dY(l:List (List UInt8)):D:=ae D.str [] l
abbrev aI(l:List (List Int)):D:=ae ints [] l
abbrev sR(l:List (List Bool)):D:=ae lQ [] l
abbrev vp(l:List (List (List UInt8))):D:=ae dY [] l
abbrev gX(l:List (List (List Int))):D:=ae aI [] l
abbrev ER(l:List (List (List (List Int)))):D:=ae gX [] l
theorem getD_map'{α β:Type}(f:α->β)(d:α)(l:List α)(i:Nat):(l.map f).getD i (f d)=f (l.getD i d):=by
 rw[List.getD_eq_getElem?_getD,List.getD_eq_getElem?_getD,List.getElem?_map];cases l[i]?<;>rfl
section ae
variable{α:Type}{f:α->D}{d:α}{l:List α}
theorem FA:(ae f d l).ck=some l.length:=by simp[ae,D.ck]
theorem Fz{i:Nat}:(ae f d l).iO i=(f (l.getD i d)).cells:=by simp only[ae,D.iO,getD_map']
theorem Pa{lo:Option X}:nh (ae f d l) lo=none:=rfl
theorem Ov:(ae f d l).cells=[ae f d l]:=rfl
theorem Ow:(ae f d l).cellsOf=some [ae f d l]:=rfl
theorem OB:(ae f d l).core=ae f d l:=by simp[ae,D.core]
theorem OG:(ae f d l).gate=true:=rfl
theorem Pd:(ae f d l).un=ae f d l:=rfl
theorem OY{k:Nat}:cu k (ae f d l)=ae f d l:=rfl
theorem OF{k:Nat}{p:Path}:di k p (ae f d l)=.sub k p:=rfl
theorem OP{i o:Nat}:(ae f d l).dL i o=(f (l.getD i d)).cells.getD o .dead:=by simp only[ae,D.dL,getD_map']
theorem O8{i o:Nat}{y:D}:(ae f d l).dI i o y=.slice (f d) ((l.map f).set i (dJ (f (l.getD i d)) o y)):=by simp only[ae,D.dI,getD_map']
theorem xV{i:Nat}{x:α}:D.slice (f d) ((l.map f).set i (f x))=ae f d (l.set i x):=by simp[ae,List.map_set]
theorem OJ{i o:Nat}:(ae f d l).eO i o=(i<l.length/\o<(f d).cells.length):=by simp[ae,D.eO]
theorem OV{i:Nat}{y:D}:(ae f d l).hU i y=jI (f (l.getD i d)) y:=by simp only[ae,D.hU,getD_map']
theorem Ot{M:List α}:(ae f d l).dQ (M.map f)=ae f d (l++M):=by simp[ae,D.dQ]
theorem mz{x:α}:(ae f d l).dQ [f x]=ae f d (l++[x]):=by simp[ae,D.dQ]
theorem Ou:(ae f d l).dQ []=ae f d l:=by simp[ae,D.dQ]
theorem OE:(ae f d l).gz=(f d).cells.length:=rfl
theorem OL:(ae f d l).isAgg=false:=rfl
theorem OM:(ae f d l).isObj=false:=rfl
theorem OW:(ae f d l).c8=true:=rfl
theorem O3:(ae f d l).mL=true:=rfl
theorem O7:(ae f d l).cP=false:=rfl
theorem OQ{q:D->Bool}:(ae f d l).kill q=ae f d l:=rfl
theorem O4{σ:Nat->Nat}:(ae f d l).ax σ=ae f d l:=rfl
theorem Pc:(ae f d l).tight=false:=rfl
theorem xW{Q:D->Prop}:(ae f d l).refs Q=True:=rfl
theorem Oz:aV (ae f d l)=.o (ae f d l):=rfl
theorem O6:(ae f d l).gL=true:=rfl
theorem O0:(ae f d l).fE=some (.vw (ae f d l)):=rfl
theorem O1:(ae f d l).pP=some (.vw (ae f d l)):=rfl
theorem OA:aV (.vw (ae f d l))=ae f d l:=rfl
theorem OZ{i:Nat}{st:St}:jK i (ae f d l) st=st:=rfl
theorem Oo{K:D->St->Prop}{st:St}:aD (ae f d l) K st=K (.vw (ae f d l)) st:=rfl
theorem OC{a b:Nat}:(ae f d l).cut a b=some (ae f d ((l.take b).drop a)):=by simp[ae,D.cut,List.map_take,List.map_drop]
theorem OR{ob:Nat->D}:mw ob (ae f d l)=some (True,.int .i64 l.length):=by simp[ae,mw,D.ck,one]
theorem OK{ob:Nat->D}{sz:Nat}{k:IntKind}{n:Int}:mf sz ob (ae f d l) (.int k n)=some (0<=n/\n<l.length/\(f (l.getD n.toNat d)).cells.length=sz,.ptr (f (l.getD n.toNat d)).cells):=by
 have h:mf sz ob (ae f d l) (.int k n)=(ae f d l).ck.bind fun m=>some (0<=n/\n<m/\((ae f d l).iO n.toNat).length=sz,.ptr ((ae f d l).iO n.toNat)):=rfl
 rw[h,FA,Fz];rfl
theorem O9{st:St}:mZ st (ae f d l)=some (l.map f):=rfl
theorem OO:(ae f d l).px=true:=rfl
theorem OT:(ae f d l).pJ=((f d).px || (f d).isAgg):=rfl
theorem OX:(ae f d l).gF=true:=rfl
theorem OS{st:St}:oc st (ae f d l)=none:=rfl
theorem ON{st:St}:isRow st (ae f d l)=none:=rfl
theorem OD:(ae f d l).il=some (l.map f):=rfl
theorem O5:(ae f d l).row?=none:=rfl
theorem FB:(ae f d l).pc=true:=by simp[ae,D.pc]
theorem O2:(ae f d l).fF=some (ae f d l):=rfl
theorem OU(h:∀x,(f x).ba=true):(ae f d l).ba=true:=by
 simp only[ae,D.ba];induction l with
 | nil=>rfl
 | cons a l ih=>simp[cB,h,ih]
theorem OH{ob:Nat->D}{n:Nat}:bh ob (n+1) (ae f d l)=some (ae f d l):=rfl
end ae
theorem Wf:D.slice (.int .i64 0) []=ints []:=rfl
theorem We:D.slice (.int .u8 0) []=bytes []:=rfl
theorem Wc:D.slice (.bool false) []=lQ []:=rfl
theorem Wk:D.slice (.str []) []=dY []:=rfl
theorem T3{n:Nat}:D.slice (.int .i64 0) (List.replicate n (.int .i64 0))=ints (List.replicate n 0):=by simp[ints,ae]
theorem T2{n:Nat}:D.slice (.int .u8 0) (List.replicate n (.int .u8 0))=bytes (List.replicate n 0):=by simp[bytes,ae]
theorem T0{n:Nat}:D.slice (.bool false) (List.replicate n (.bool false))=lQ (List.replicate n false):=by simp[lQ,ae]
theorem T6{n:Nat}:D.slice (.str []) (List.replicate n (.str []))=dY (List.replicate n []):=by simp[dY,ae]
theorem T4{n:Nat}:D.slice (ints []) (List.replicate n (ints []))=aI (List.replicate n []):=by simp[aI,ae]
theorem T1{n:Nat}:D.slice (lQ []) (List.replicate n (lQ []))=sR (List.replicate n []):=by simp[sR,ae]
theorem T7{n:Nat}:D.slice (dY []) (List.replicate n (dY []))=vp (List.replicate n []):=by simp[vp,ae]
theorem T5{n:Nat}:D.slice (aI []) (List.replicate n (aI []))=gX (List.replicate n []):=by simp[gX,ae]
theorem Wg:D.slice (ints []) []=aI []:=rfl
theorem Wd:D.slice (lQ []) []=sR []:=rfl
theorem Wl:D.slice (dY []) []=vp []:=rfl
theorem Wi:D.slice (aI []) []=gX []:=rfl
theorem Wj:D.slice (gX []) []=ER []:=rfl
def mK{α β:Type}(f:α->D)(l:List (α×β)):List D:=l.map fun e=>f e.1
def mV{α β:Type}(g:β->D)(l:List (α×β)):List D:=l.map fun e=>g e.2
def cn{α β:Type}(f:α->D)(g:β->D)(l:List (α×β)):D:=.mp (mK f l) (mV g l)
section maps
variable{α β:Type}{f:α->D}{g:β->D}{l:List (α×β)}{a:α}{b:β}
def fD[BEq α](l:List (α×β))(a:α):Option Nat:=l.findIdx? fun e=>a == e.1
def uc[BEq α](l:List (α×β))(a:α)(z:β):β:=((l.find? fun e=>a == e.1).map (·.2)).getD z
def FI[BEq α](l:List (α×β))(a:α):Bool:=l.any fun e=>a == e.1
def jF[BEq α](l:List (α×β))(a:α)(b:β):List (α×β) :=
 match fD l a with
 | some i=>l.set i ((l.getD i (a,b)).1,b)
 | none=>l++[(a,b)]
theorem Px:D.mp (mK f l) (mV g l)=cn f g l:=rfl
theorem PD:(cn f g l).jE=some (mK f l,mV g l):=rfl
theorem PE:(cn f g l).pI=some (mK f l,mV g l):=rfl
theorem Pe:(mK f l).length=l.length:=by simp[mK]
theorem Pz:(cn f g l).isAgg=false:=rfl
theorem Pv:(cn f g l).core=cn f g l:=by simp[cn,D.core]
theorem Py:(cn f g l).gate=true:=rfl
theorem Pw{k:Nat}{p:Path}:di k p (cn f g l)=.sub k p:=rfl
theorem PI{k:Nat}:cu k (cn f g l)=cn f g l:=rfl
theorem Ps{k:Nat}{p:Path}:o8 k p (cn f g l)=cn f g l:=rfl
theorem PO:(cn f g l).un=cn f g l:=rfl
theorem Pq:(cn f g l).cells=[cn f g l]:=rfl
theorem Pr:(cn f g l).cellsOf=some [cn f g l]:=rfl
theorem PA:(cn f g l).isObj=false:=rfl
theorem PH:(cn f g l).c8=true:=rfl
theorem PC{q:D->Bool}:(cn f g l).kill q=cn f g l:=rfl
theorem PM{σ:Nat->Nat}:(cn f g l).ax σ=cn f g l:=rfl
theorem PL{Q:D->Prop}:(cn f g l).refs Q=True:=rfl
theorem Pt:aV (cn f g l)=.o (cn f g l):=rfl
theorem Pu:aV (.vw (cn f g l))=cn f g l:=rfl
theorem PJ:(cn f g l).pc=true:=rfl
theorem PK:(cn f g l).fF=some (cn f g l):=rfl
theorem PG:(cn f g l).ba=true:=rfl
theorem PN:(cn f g l).tight=false:=rfl
theorem PB:(cn f g l).px=false:=rfl
theorem PF:(cn f g l).pJ=false:=rfl
theorem FH[BEq α](h:∀a b,lg (f a) (f b)=some (a == b)):fC (f a) (mK f l)=some (fD l a):=by
 unfold mK fD;induction l with
 | nil=>rfl
 | cons e r ih =>
  simp only[List.map_cons,fC,h,Option.bind_some,ih,List.findIdx?_cons];cases a == e.1<;>rfl
theorem Pj{l:List (List UInt8×β)}{a:List UInt8}:fC (.str a) (mK D.str l)=some (fD l a):=FH fun _ _=>rfl
theorem Ph{k:IntKind}{l:List (Int×β)}{a:Int}:fC (.int k a) (mK (D.int k) l)=some (fD l a):=FH fun a b=>by simp[lg]
theorem ug[BEq α]:cU (f a) (g b) (mK f l) (mV g l) (fD l a)=(mK f (jF l a b),mV g (jF l a b)):=by
 unfold jF mK mV;cases h:fD l a with
 | none=>simp[cU]
 | some i =>
  have hi:i<l.length:=by
   unfold fD at h;rw[List.findIdx?_eq_some_iff_findIdx_eq] at h;exact h.1
  simp only[cU,List.map_set];congr 1;have:f (l.getD i (a,b)).1=(l.map fun e=>f e.1)[i]'(by simpa using hi):=by simp[List.getD_eq_getElem?_getD,hi]
  rw[this,List.set_getElem_self]
theorem FL[BEq α]{z:β}:iU (g z) (mV g l) (fD l a)=g (uc l a z):=by
 unfold fD uc mV;induction l with
 | nil=>rfl
 | cons e r ih =>
  rw[List.findIdx?_cons,List.find?_cons];cases h:a == e.1 with
  | true=>simp[iU]
  | false =>
   simp only[Bool.false_eq_true,if_false] at ih|-
   rw[<-ih];cases r.findIdx? (fun e=>a == e.1)<;>simp[iU]
theorem Pk[BEq α]:(fD l a).isSome=FI l a:=by
 unfold fD FI;rw[List.findIdx?_isSome]
theorem PZ[BEq α]{k:IntKind}{l:List (α×Int)}{z:Int}:iU (.int k z) (mV (D.int k) l) (fD l a)=.int k (uc l a z):=FL
theorem PY[BEq α]{l:List (α×Bool)}{z:Bool}:iU (.bool z) (mV D.bool l) (fD l a)=.bool (uc l a z):=FL
theorem PU{k:IntKind}{l:List (List UInt8×Int)}{a:List UInt8}{b:Int}:cU (.str a) (.int k b) (mK D.str l) (mV (D.int k) l) (fD l a)=(mK D.str (jF l a b),mV (D.int k) (jF l a b)):=ug
theorem PT{l:List (List UInt8×Bool)}{a:List UInt8}{b:Bool}:cU (.str a) (.bool b) (mK D.str l) (mV D.bool l) (fD l a)=(mK D.str (jF l a b),mV D.bool (jF l a b)):=ug
theorem PS{j k:IntKind}{l:List (Int×Int)}{a b:Int}:cU (.int j a) (.int k b) (mK (D.int j) l) (mV (D.int k) l) (fD l a)=(mK (D.int j) (jF l a b),mV (D.int k) (jF l a b)):=ug
theorem PQ{j:IntKind}{l:List (Int×Bool)}{a:Int}{b:Bool}:cU (.int j a) (.bool b) (mK (D.int j) l) (mV D.bool l) (fD l a)=(mK (D.int j) (jF l a b),mV D.bool (jF l a b)):=ug
end maps
abbrev Dg(s:List UInt8):List Int:=s.map fun b=>(b.toNat:Int)
def byteOf(n:Int):UInt8:=UInt8.ofNat n.toNat
theorem LV{s:List UInt8}:qD s=bytes (Dg s):=by simp[qD,bytes,ae,Dg,Function.comp_def]
theorem Dh:∀{l:List Int},bytesOf (l.map (D.int .u8))=some (l.map byteOf)
 | []=>rfl
 | a::r=>by simp only[List.map_cons,bytesOf,Dh (l:=r),Option.bind_some];rfl
theorem LX{l:List Int}:(ae (D.int .u8) 0 l).kQ=some (l.map byteOf):=Dh
attribute [go_sem] Px PD PE Pe Pz Pv Py Pw PI Ps PO Pq Pr PA PH PC PM PL Pt Pu PJ PK PG PN PB PF
 Pj Ph Pk PZ PY PU PT PS PQ LV LX List.head?_cons
section
variable{P:Program}{K:St->Prop}{E:Ex}{st st':St}{env env':List D}
@[congr] theorem Yt{c:C}{K:List D->Prop}(h:env=env'):bF P c K E env=bF P c K E env':=by rw[h]
@[congr] theorem Yu{l:List bd}(h:st=st'):cf P K l st=cf P K l st':=by rw[h]
@[congr] theorem Yi{k:Kp}{g g':Option Bool}(hg:g=g')(h:st=st'):bl P k g K st=bl P k g' K st':=by rw[h,hg]
@[congr] theorem Yn{r r':Option PR}{g g':Option Bool}(h:r=r')(hg:g=g'):gH r g K st=gH r' g' K st:=by rw[h,hg]
@[congr] theorem Yg{r r':Option PR}{g g':Option Bool}(h:r=r')(hg:g=g'):fe r g K st=fe r' g' K st:=by rw[h,hg]
@[congr] theorem Yb{v v':Option Bool}{K:Bool->Prop}(h:v=v'):jw v K=jw v' K:=by rw[h]
@[congr] theorem X3{v v':D}{A B:Prop}(h:v=v'):iM v A B=iM v' A B:=by rw[h]
@[congr] theorem Yj{α:Type}{v v':Option α}{K:α->Prop}(h:v=v'):cX v K=cX v' K:=by rw[h]
@[congr] theorem XV{j:Nat}{x x':D}(h:x=x'):lO j x K st=lO j x' K st:=by rw[h]
@[congr] theorem XW{j:Nat}{x x':D}(h:x=x'):kO j x K st=kO j x' K st:=by rw[h]
@[congr] theorem XU{j:Nat}{x x':D}(h:x=x'):oX j x K st=oX j x' K st:=by rw[h]
@[congr] theorem XR{x x':D}{K:D->St->Prop}(h:x=x')(hs:st=st'):aD x K st=aD x' K st':=by rw[h,hs]
@[congr] theorem XS{x x':List D}{K:List D->St->Prop}(h:x=x')(hs:st=st'):cV x K st=cV x' K st':=by rw[h,hs]
@[congr] theorem Yr{k:Nat}{p p':Path}{K:D->St->Prop}(h:p=p')(hs:st=st'):eI k p K st=eI k p' K st':=by rw[h,hs]
@[congr] theorem XX{x x':D}{K:D->St->Prop}(h:x=x')(hs:st=st'):gR x K st=gR x' K st':=by rw[h,hs]
@[congr] theorem Yq{n:Nat}{a a' x x':D}(h:a=a')(hs:x=x'):nf n a x K st=nf n a' x' K st:=by rw[h,hs]
@[congr] theorem Yp{n:Nat}{a a' x x':D}(h:a=a')(hs:x=x'):jO n a x K st=jO n a' x' K st:=by rw[h,hs]
@[congr] theorem XT{n m:Nat}{a a' x x':D}(h:a=a')(hs:x=x'):nA n m a x K st=nA n m a' x' K st:=by rw[h,hs]
@[congr] theorem X2{f:FuncId}{ds ds':Option (List D)}{gt gt':Bool}{pl pl':Prop}{g g':Option Bool}{K:KH}(h1:ds=ds')(h2:gt=gt')(h3:pl=pl')(h:g=g')(hs:st=st'):nD P f ds gt pl g st=nD P f ds' gt' pl' g' st':=by rw[h1,h2,h3,h,hs]
@[congr] theorem Yc{f:FuncId}{d d':D}{ds ds':Option (List D)}{gt gt':Bool}{pl pl':Prop}{g g':Option Bool}{K:KH}(h0:d=d')(h1:ds=ds')(h2:gt=gt')(h3:pl=pl')(h:g=g')(hs:st=st'):tE P f d ds gt pl g st=tE P f d' ds' gt' pl' g' st':=by rw[h0,h1,h2,h3,h,hs]
@[congr] theorem X9{l l' ys ys':List D}{K:St->Prop}(h0:l=l')(h1:ys=ys')(hs:st=st'):gB l ys K st=gB l' ys' K st':=by rw[h0,h1,hs]
@[congr] theorem X7{x x' y y':D}{r r':List D}{K:St->Prop}(h0:x=x')(h1:y=y')(h2:r=r')(hs:st=st'):ph x r y K st=ph x' r' y' K st':=by rw[h0,h1,h2,hs]
@[congr] theorem Ya{f:FuncId}{ds ds':List D}{gt gt':Bool}{g g':Bool}{K:KH}(h1:ds=ds')(h2:gt=gt')(h:g=g')(hs:st=st'):nL P f ds gt g st=nL P f ds' gt' g' st':=by rw[h1,h2,h,hs]
@[congr] theorem X5{x x':D}{ds ds':List D}{gt gt':Bool}{g g':Bool}{K:KH}(h0:x=x')(h1:ds=ds')(h2:gt=gt')(h:g=g')(hs:st=st'):kS P x ds gt g st=kS P x' ds' gt' g' st':=by rw[h0,h1,h2,h,hs]
@[congr] theorem XZ{x x':D}{K:D->St->Prop}(h:x=x')(hs:st=st'):jX x K st=jX x' K st':=by rw[h,hs]
@[congr] theorem Ys{d d' l l':List D}{K:List D->St->Prop}(h:d=d')(h':l=l')(hs:st=st'):gn d l K st=gn d' l' K st':=by rw[h,h',hs]
@[congr] theorem X1{n:Nat}{x x':D}(h:x=x')(hs:st=st'):o6 n x K st=o6 n x' K st':=by rw[h,hs]
@[congr] theorem XY{z x x':D}(h:x=x')(hs:st=st'):oZ z x K st=oZ z x' K st':=by rw[h,hs]
@[congr] theorem X4{x x' y y':D}{K:KH}(h:x=x')(h':y=y')(hs:st=st'):qI x y st=qI x' y' st':=by rw[h,h',hs]
@[congr] theorem Yf{kk:Nat}{x x' y y' z z':D}{K:KH}(h:x=x')(h':y=y')(h2:z=z')(hs:st=st'):n9 kk x y z st=n9 kk x' y' z' st':=by rw[h,h',h2,hs]
@[congr] theorem Yh{j:Nat}{K:KH}(hs:st=st'):od j st=od j st':=by rw[hs]
@[congr] theorem X6{x x':D}{ds ds':List D}{gt gt':Bool}{g g':Option Bool}{K:KH}(h0:x=x')(h1:ds=ds')(h2:gt=gt')(h:g=g')(hs:st=st'):jm P x ds gt g st=jm P x' ds' gt' g' st':=by rw[h0,h1,h2,h,hs]
@[congr] theorem Ye{h:LH}(he:env=env'):tY env=tY env':=by rw[he]
end
attribute [go_sem] bF.eq_1 bF.eq_2 bF.eq_3 bF.eq_4 bF.eq_5 bF.eq_6 bF.eq_7 bF.eq_8 bF.eq_9 bF.eq_10 bF.eq_11 cf.eq_1 cf.eq_2 cf.eq_3 bl.eq_1 bl.eq_2 bl.eq_3 bl.eq_4 bl.eq_5 bl.eq_6 bl.eq_7
  bl.eq_8 bl.eq_9 bl.eq_10 bl.eq_11 bl.eq_12 bl.eq_13 bl.eq_14 bl.eq_15 bl.eq_16 bl.eq_17 bl.eq_18 bl.eq_19 bl.eq_20 bl.eq_21 bl.eq_22 bl.eq_23 bl.eq_24 bl.eq_25 bl.eq_26 bl.eq_27 bl.eq_28
  gH.eq_1 gH.eq_2 fe.eq_1 fe.eq_2 bY.eq_1 bY.eq_2 bY.eq_3 bY.eq_4 bY.eq_5 bY.eq_6 bY.eq_7 bY.eq_8 bY.eq_9 ky.eq_1 ky.eq_2 oM.eq_1 oM.eq_2 lO.eq_1 oX.eq_1 kO.eq_1 kO.eq_2 jQ.eq_1
  jQ.eq_2 jQ.eq_3 mo.eq_1 mo.eq_2 mo.eq_3 D.tH.eq_1 D.tH.eq_2 D.c8.eq_1 D.c8.eq_2 D.c8.eq_3 D.c8.eq_4 D.c8.eq_5 rp.eq_1 rp.eq_2 D.mL.eq_1 D.mL.eq_2 D.mL.eq_3 D.mL.eq_4 D.mL.eq_5
  D.mL.eq_6 aD.eq_1 aD.eq_2 aD.eq_3 aD.eq_4 aD.eq_5 aD.eq_6 aD.eq_7 aD.eq_8 aD.eq_9 aD.eq_10 aD.eq_11 aD.eq_12 aD.eq_13 aD.eq_14 aD.eq_15 cV.eq_1 cV.eq_2 eI.eq_1 eI.eq_2 gR.eq_1
  gR.eq_2 gR.eq_3 jO.eq_1 jO.eq_2 nA.eq_1 aV.eq_1 aV.eq_2 aV.eq_3 aV.eq_4 aV.eq_5 aV.eq_6 aV.eq_7 aV.eq_8 aV.eq_9 aV.eq_10 aV.eq_11 aV.eq_12 aV.eq_13 aV.eq_14
  aV.eq_15 aV.eq_16 aV.eq_17 bJ.eq_1 bJ.eq_2 bJ.eq_3 bJ.eq_4 bJ.eq_5 bJ.eq_6 bJ.eq_7 bJ.eq_8 bJ.eq_9 bJ.eq_10 bJ.eq_11 bJ.eq_12 bJ.eq_13 bJ.eq_14 bJ.eq_15 bJ.eq_16 bJ.eq_17 bJ.eq_18 bJ.eq_19
  bJ.eq_20 bJ.eq_21 bJ.eq_22 bJ.eq_23 bJ.eq_24 bJ.eq_25 bJ.eq_26 bJ.eq_27 bJ.eq_28 bJ.eq_29 g1.eq_1 g1.eq_2 g2.eq_1 g2.eq_2 one.eq_1 St.rd.eq_1 St.rd.eq_2 St.rd.eq_3 St.rd.eq_4 St.rd.eq_5 St.cont.eq_1 St.put.eq_1
  St.push.eq_1 St.kill.eq_1 cu.eq_1 cu.eq_2 cu.eq_3 cu.eq_4 di.eq_1 di.eq_2 di.eq_3 di.eq_4 di.eq_5 di.eq_6 di.eq_7 di.eq_8 di.eq_9 di.eq_10 di.eq_11 di.eq_12 di.eq_13 di.eq_14 di.eq_15 jr.eq_1
  jr.eq_2 nth.eq_1 nth.eq_2 nth.eq_3 ej.eq_1 ej.eq_2 ej.eq_3 eu.eq_1 eu.eq_2 D.kill.eq_1 D.kill.eq_2 D.kill.eq_3 D.kill.eq_4 D.kill.eq_5 D.kill.eq_6 D.kill.eq_7 D.kill.eq_8 D.kill.eq_9 D.kill.eq_10 D.core.eq_1
  D.core.eq_2 D.gate.eq_1 D.gate.eq_2 qx.eq_1 qx.eq_2 qx.eq_3 sP.eq_1 sP.eq_2 vj.eq_1 vj.eq_2 uf.eq_1 uf.eq_2 ll.eq_1 ll.eq_2 gb.eq_1 gb.eq_2 gb.eq_3 gb.eq_4 gb.eq_5 gb.eq_6 gb.eq_7
  gb.eq_8 gb.eq_9 gb.eq_10 gb.eq_11 gb.eq_12 gb.eq_13 jP.eq_1 jP.eq_2 jP.eq_3 jP.eq_4 jP.eq_5 jP.eq_6 jP.eq_7 jP.eq_8 o5.eq_1 o5.eq_2 o5.eq_3 mw.eq_1
  mw.eq_2 tQ.eq_1 tQ.eq_2 mf.eq_1 mf.eq_2 mf.eq_3 mq.eq_1 mq.eq_2 mq.eq_3 mu.eq_1 mu.eq_2 mu.eq_3 lW.eq_1 lW.eq_2 lW.eq_3 tn.eq_1 tn.eq_2 tp.eq_1 tp.eq_2 uo.eq_1 uo.eq_2 sX.eq_1
  sX.eq_2 uL.eq_1 uL.eq_2 mI.eq_1 mI.eq_2 wC.eq_1 wA.eq_1 xX.eq_1 qy.eq_1 qy.eq_2 qy.eq_3 lY.eq_1 lY.eq_2 lZ.eq_1 lZ.eq_2 setCells.eq_1 setCells.eq_2 D.cellsOf.eq_1 D.cellsOf.eq_2
  D.cellsOf.eq_3 D.cellsOf.eq_4 D.cellsOf.eq_5 D.cellsOf.eq_6 D.cellsOf.eq_7 D.cellsOf.eq_8 D.cellsOf.eq_9 gh.eq_1 gh.eq_2 bh.eq_1 bh.eq_2 bh.eq_3 bh.eq_4 bh.eq_5 bh.eq_6 bh.eq_7 bh.eq_8 bh.eq_9 bh.eq_10
  bh.eq_11 bh.eq_12 bh.eq_13 bh.eq_14 gV.eq_1 gV.eq_2 dT.eq_1 dT.eq_2 iM.eq_1 iM.eq_2 de.eq_1 de.eq_2 jo.eq_1 jo.eq_2 jK.eq_1 jK.eq_2 jK.eq_3 yJ.eq_1 yJ.eq_2 iy.eq_1 iy.eq_2
  fin.eq_1 jw.eq_1 jw.eq_2 gd.eq_1 cX.eq_1 cX.eq_2 isRow.eq_1 isRow.eq_2 oc.eq_1 oc.eq_2 oc.eq_3 D.xZ.eq_1 D.xZ.eq_2 D.pJ.eq_1 D.pJ.eq_2 D.px.eq_1 D.px.eq_2 D.gF.eq_1 D.gF.eq_2 D.gF.eq_3
  D.gF.eq_4 D.gF.eq_5 D.gF.eq_6 D.gF.eq_7 D.gF.eq_8 D.gF.eq_9 D.gF.eq_10 D.gF.eq_11 oe.eq_1 oe.eq_2 D.uh.eq_1 mZ.eq_1 mZ.eq_2 sJ.eq_1 D.row?.eq_1 D.row?.eq_2 D.il.eq_1 D.il.eq_2 D.il.eq_3
  D.o?.eq_1 D.o?.eq_2 D.gL.eq_1 D.gL.eq_2 D.gL.eq_3 D.gL.eq_4 D.gL.eq_5 D.gL.eq_6 D.gL.eq_7 D.gL.eq_8 D.gL.eq_9 D.gL.eq_10 oC.eq_1 oC.eq_2 D.qB.eq_1 D.qB.eq_2 nf.eq_1 nf.eq_2 D.ja.eq_1 D.ja.eq_2
  D.ja.eq_3 D.fE.eq_1 D.fE.eq_2 D.fE.eq_3 D.fE.eq_4 D.fE.eq_5 D.fE.eq_6 D.fE.eq_7 D.fE.eq_8 D.pP.eq_1 D.pP.eq_2 D.int?.eq_1 D.int?.eq_2 D.ng.eq_1 D.ng.eq_2 D.bool?.eq_1 D.bool?.eq_2 D.qq.eq_1 D.qq.eq_2
  D.qq.eq_3 D.pc.eq_1 D.pc.eq_2 D.pc.eq_3 D.pc.eq_4 D.pc.eq_5 D.pc.eq_6 D.pc.eq_7 D.pc.eq_8 D.pc.eq_9 qa.eq_1 qa.eq_2 D.fF.eq_1 D.fF.eq_2 D.fF.eq_3 D.fF.eq_4 D.fF.eq_5 D.fF.eq_6 D.fF.eq_7
  D.fF.eq_8 D.fF.eq_9 D.fF.eq_10 D.fF.eq_11 D.fF.eq_12 D.fF.eq_13 om.eq_1 om.eq_2 tA.eq_1 tA.eq_2 td.eq_1 td.eq_2 mB.eq_1 mB.eq_2 mB.eq_3 mB.eq_4 ta.eq_1 ta.eq_2 gU.eq_1 gU.eq_2
  gU.eq_3 gU.eq_4 gU.eq_5 zX.eq_1 vo.eq_1 nh.eq_1 nh.eq_2 jW.eq_1 jW.eq_2 lR.eq_1 lR.eq_2 bump.eq_1 bump.eq_2 bump.eq_3 looks.eq_1 looks.eq_2 qU.eq_1 qU.eq_2 nY.eq_1 o8.eq_1 o8.eq_2
  D.refs.eq_1 D.refs.eq_2 D.refs.eq_3 D.refs.eq_4 D.refs.eq_5 D.refs.eq_6 D.refs.eq_7 D.refs.eq_8 D.refs.eq_9 D.refs.eq_10 bK.eq_1 bK.eq_2 mS.eq_1 mS.eq_2 zF.eq_1 zF.eq_2 lN.eq_1 lN.eq_2 lN.eq_3
  apart.eq_1 apart.eq_2 apart.eq_3 cG.eq_1 cG.eq_2 cG.eq_3 eP.eq_1 jL.eq_1 jL.eq_2 aW.eq_1 aW.eq_2 aW.eq_3 bL.eq_1 bL.eq_2 bL.eq_3 bN.eq_1 bN.eq_2 bN.eq_3 gC.eq_1 gC.eq_2 gC.eq_3
  ju.eq_1 ju.eq_2 ju.eq_3 cW.eq_1 D.hole.eq_1 D.xj.eq_1 ph.eq_1 ph.eq_2 gB.eq_1 gB.eq_2 gB.eq_3 fh.eq_1 fh.eq_2 fh.eq_3 D.ck.eq_1 D.ck.eq_2 D.ck.eq_3 D.ck.eq_4 D.iO.eq_1 D.iO.eq_2 D.cells.eq_1
  D.cells.eq_2 lk.eq_1 D.isObj.eq_1 D.isObj.eq_2 D.isObj.eq_3 D.isObj.eq_4 D.gY.eq_1 D.gY.eq_2 D.bm.eq_1 D.at.eq_1 D.at.eq_2 D.aZ.eq_1 D.dL.eq_1 D.dL.eq_2 D.dL.eq_3 D.dL.eq_4 D.dL.eq_5 D.dL.eq_6 D.dL.eq_7
  D.un.eq_1 D.un.eq_2 bz.eq_1 bz.eq_2 D.aX.eq_1 D.aX.eq_2 D.aX.eq_3 D.aX.eq_4 D.aX.eq_5 D.aX.eq_6 D.has.eq_1 D.has.eq_2 D.kf.eq_1 D.eO.eq_1 D.eO.eq_2 D.eO.eq_3 D.eO.eq_4 D.eO.eq_5
  D.eO.eq_6 D.eO.eq_7 D.setAt.eq_1 D.setAt.eq_2 D.eM.eq_1 D.eM.eq_2 D.dI.eq_1 D.dI.eq_2 D.dI.eq_3 D.dI.eq_4 D.dI.eq_5 D.dI.eq_6 D.dI.eq_7 dJ.eq_1 dJ.eq_2 ez.eq_1
  ez.eq_2 mF.eq_1 mF.eq_2 fg.eq_1 fg.eq_2 fg.eq_3 fg.eq_4 eh.eq_1 eh.eq_2 eh.eq_3 D.hU.eq_1 D.hU.eq_2 D.hU.eq_3 jI.eq_1 D.isAgg.eq_1 D.isAgg.eq_2 D.cP.eq_1 D.cP.eq_2 D.cP.eq_3
  D.cP.eq_4 D.dQ.eq_1 D.dQ.eq_2 D.gz.eq_1 D.gz.eq_2 D.gz.eq_3 D.cut.eq_1 D.cut.eq_2 D.cut.eq_3 D.cut.eq_4 D.ba.eq_1 D.ba.eq_2 D.ba.eq_3 D.ba.eq_4 D.ba.eq_5 D.ba.eq_6 D.ba.eq_7 cB.eq_1 cB.eq_2
  jm.eq_1 jm.eq_2 jm.eq_3 kS.eq_1 kS.eq_2 jX.eq_1 jX.eq_2 gn.eq_1 gn.eq_2 gn.eq_3 o6.eq_1 oZ.eq_1 qO.eq_1 qO.eq_2 jN.eq_1 jN.eq_2 wx.eq_1 n9.eq_1 n9.eq_2 n9.eq_3
  od.eq_1 D.qW.eq_1 D.qW.eq_2 pL.eq_1 pL.eq_2 pL.eq_3 zy.eq_1 four.eq_1 four.eq_2 four.eq_3 four.eq_4 four.eq_5 zz.eq_1 zz.eq_2 wU.eq_1 lg.eq_1 lg.eq_2 lg.eq_3 lg.eq_4 fC.eq_1 fC.eq_2
  D.jE.eq_1 D.jE.eq_2 D.pI.eq_1 D.pI.eq_2 D.pI.eq_3 mapOf.eq_1 mapOf.eq_2 D.jA.eq_1 D.jA.eq_2 D.jA.eq_3 D.jA.eq_4 iU.eq_1 iU.eq_2 ud.eq_1 tP.eq_1 cU.eq_1 cU.eq_2 D.kQ.eq_1 D.kQ.eq_2 D.kQ.eq_3
  D.kQ.eq_4 pf.eq_1 pf.eq_2 fj.eq_1 fj.eq_2 D.ax.eq_1 D.ax.eq_2 D.ax.eq_3 D.ax.eq_4 D.ax.eq_5 D.ax.eq_6 D.ax.eq_7 D.ax.eq_8 D.ax.eq_9 D.ax.eq_10 dF.eq_1 dF.eq_2 km.eq_1 km.eq_2 km.eq_3 jU.eq_1
  jU.eq_2 jU.eq_3 vh.eq_1 vh.eq_2 rX.eq_1 rX.eq_2 ow.eq_1 ow.eq_2 ow.eq_3 qG.eq_1 qG.eq_2 gk.eq_1 gk.eq_2 kq.eq_1 kq.eq_2 kq.eq_3 D.tight.eq_1 D.tight.eq_2 D.tight.eq_3 D.tight.eq_4 D.tight.eq_5
  D.tight.eq_6 D.tight.eq_7 D.tight.eq_8 D.tight.eq_9 D.tight.eq_10 D.tight.eq_11 D.tight.eq_12 kJ.eq_1 kJ.eq_2 D.qb.eq_1 D.qb.eq_2 qc.eq_1 qc.eq_2 D.iZ.eq_1 D.iZ.eq_2 D.iZ.eq_3 kK.eq_1
  kK.eq_2
 FA Fz Option.elim_none Option.elim_some Pa Ov Ow OB OG Pd OY OF OP O8 xV OJ OV Ot mz Ou OE OL OM O7 OW O3 OQ xW O4 Pc Oz OZ Oo OC OH OR OK O9 ON OO OT OX OS OD O5 FB O2 O6 O0 O1 OA
 Wf We Wc Wk Wg Wd Wl Wi Wj T3 T2 T0 T6 T4 T1 T7 T5
 Option.bind_some Option.map_some Option.bind_none Option.map_none Option.some.injEq if_true if_false true_and and_true Bool.true_and Bool.and_true Bool.and_self Bool.false_and Bool.and_false Bool.not_true Bool.not_false List.drop_zero List.drop_succ_cons List.take_succ_cons List.take_zero List.length_cons List.length_nil List.replicate_succ List.replicate_zero List.map_cons List.map_nil
 List.getD_cons_zero List.getD_cons_succ List.set_cons_zero List.set_cons_succ List.cons_append List.nil_append List.append_nil List.isEmpty_nil List.isEmpty_cons
 reduceCtorEq decide_true decide_false implies_true true_implies false_implies and_self ne_eq not_false_eq_true not_true_eq_false beq_iff_eq true_or or_true false_or or_false eq_self Bool.false_eq_true decide_eq_true_eq decide_eq_false_iff_not Nat.zero_add Nat.add_zero imp_self
end Go.D3
namespace Go.D3
open Go
def rn(k:IntKind)(n:Int):Bool:=decide (k.min<=n)&&decide (n<=k.max)
theorem ku{k:IntKind}{n:Int}(h:rn k n=true):k.has n:=by
 simp[rn] at h;exact h
def dB(P:Program)(t:TypeId)(n:Nat):Bool :=
 match P.info? t with
 | some i=>decide (i.size=n)
 | none=>false
def nC(P:Program)(t:TypeId)(n:Nat):Bool :=
 match P.info? t with
 | some i=>decide (i.bytes=n)
 | none=>false
def lM(P:Program)(t:TypeId):Bool:=match P.underlying t with
 | some (.struct _) | some (.array _ _)=>true
 | _=>false
def ji(P:Program)(t:TypeId):Bool:=match P.underlying t with
 | some (.struct _) | some (.array _ _) | none=>false
 | _=>true
def iY(P:Program)(t:TypeId):Option TypeId:=match P.underlying t with
 | some (.slice e)=>some e
 | _=>none
def im(P:Program)(t:TypeId)(f:Nat):Option (Nat×TypeId):=match P.underlying t with
 | some (.struct fs)=>(fs[f]?).map fun x=>(x.offset,x.type)
 | _=>none
theorem nQ{n:Nat}(h:n<=maxLen):IntKind.i64.has (n:Int):=by
 simp only[maxLen] at h;constructor
 ·simp[IntKind.min,IntKind.signed,IntKind.bits]<;>omega
 ·simp[IntKind.max,IntKind.signed,IntKind.bits]<;>omega
theorem vK(k:IntKind)(n:Int):k.has (k.wrap n):=by
 have hs:∀(bits:Nat),True:=fun _=>trivial
 cases k<;>simp only[IntKind.has,IntKind.min,IntKind.max,IntKind.wrap,IntKind.signed,IntKind.bits]<;>simp<;>(first | omega | (split<;>omega))
def Yd(P:Program)(o:Oper)(a:Act)(w:World)(v:Value):Prop:=(execOp a.eval o).run P w=.ok (.value v) w
section
variable{P:Program}{o:Oper}{w:World}{a:Act}
theorem vM{x:Operand}(ho:o.op=.move x\/o.op=.assign x):Yd P o a w (a.eval x):=by
 rcases ho with ho | ho<;>simp[Yd,execOp,ho]
theorem Nu{op:BinOp}{k:IntKind}{m n:Int}(hm:k.has m){side:Prop}{d:D}(hb:gb op k m n=some (side,d))(hs:side):∃v,Rd w (fun _=>False) v d /\
  (∀{t u:TypeId}{x y:Operand},o.op=.binOp op t x y u->a.eval x=.int k m->a.eval y=.int k n->Yd P o a w v):=by
 have hg:∀t x y w,(eqGuard op t x y (.int k m) (.int k n)).run P w=.ok () w:=by
  intro t x y w;unfold eqGuard;cases op<;>rfl
 have hq:∀(d:Int),(¬n=0)->(Op.intDiv .quo k m n).run P w=.ok (.int k (k.wrap (m.tdiv n))) w/\(Op.intDiv .rem k m n).run P w=.ok (.int k (m.tmod n)) w:=by
  intro _ h0;constructor<;>simp[Op.intDiv,h0]
 cases op<;>simp only[gb,Option.some.injEq,Prod.mk.injEq,reduceCtorEq] at hb
 case quo =>
  obtain⟨h1,rfl⟩:=hb;rw[<-h1] at hs;refine⟨.int k (k.wrap (m.tdiv n)),Rd.int (vK _ _),fun ho hx hy=>?_⟩;simp[Yd,execOp,ho,hx,hy,hg,binOp,(hq 0 hs).1]
 case rem =>
  obtain⟨h1,rfl⟩:=hb;rw[<-h1] at hs;refine⟨.int k (m.tmod n),Rd.int ?_,fun ho hx hy=>by simp[Yd,execOp,ho,hx,hy,hg,binOp,(hq 0 hs).2]⟩
  have h3:(m.tmod n).natAbs<=m.natAbs:=by
   rw[Int.natAbs_tmod];exact Nat.mod_le _ _
  obtain⟨h4,h5⟩:=hm;have h8:k.min<=0/\0<=k.max:=by cases k<;>simp[IntKind.min,IntKind.max,IntKind.signed,IntKind.bits]
  rcases Int.le_total 0 m with h6 | h6
  ·have h7:=Int.tmod_nonneg n h6
   constructor<;>omega
  ·have h7:m.tmod n<=0:=by
    have:=Int.tmod_nonneg n (show 0<=-m by omega);rw[Int.neg_tmod] at this;omega
   constructor<;>omega
 case and =>
  obtain⟨-,rfl⟩:=hb;refine⟨_,Rd.int (vK _ _),fun ho hx hy=>?_⟩;simp only[Yd,execOp,ho,hx,hy,binOp,ne_eq,not_true_eq_false,if_false];rfl
 all_goals
  obtain⟨-,rfl⟩:=hb
  first
  | exact⟨_,Rd.int (vK _ _),fun ho hx hy=>by simp[Yd,execOp,ho,hx,hy,hg,binOp,Op.intArith]⟩
  | exact⟨_,Rd.bool,fun ho hx hy=>by simp[Yd,execOp,ho,hx,hy,hg,binOp,Op.intCmp]⟩
theorem V4{k:IntKind}{m:Int}(hm:k.has m)(n:Nat):k.has (m.fdiv (2 ^ n)):=by
 have hp:(0:Int)<2 ^ n:=Int.pow_pos (by decide);rw[Int.fdiv_eq_ediv_of_nonneg _ (Int.le_of_lt hp)];obtain⟨h1,h2⟩:=hm;have h0:k.min<=0/\0<=k.max:=by cases k<;>simp[IntKind.min,IntKind.max,IntKind.signed,IntKind.bits]
 constructor
 ·refine(Int.le_ediv_iff_mul_le hp).2 ?_
  have:=Int.mul_le_mul_of_nonpos_left h0.1 (show(1:Int)<=2 ^ n by omega);omega
 ·rcases Int.le_total 0 m with h | h
  ·have:=Int.ediv_le_self (2 ^ n) h
   omega
  ·have:=(Int.ediv_lt_iff_lt_mul hp (a:=m) (b:=1)).2 (by omega)
   omega
theorem XL{k k':IntKind}{m n:Int}{t u:TypeId}{x y:Operand}(ho:o.op=.binOp .shr t x y u)(hx:a.eval x=.int k m)(hy:a.eval y=.int k' n)(h0 : 0<=n)(h1:n<=k.bits):Yd P o a w (.int k (m.fdiv (2 ^ n.toNat))):=by
 have h2:¬n<0:=by omega
 have h3:min n.toNat k.bits=n.toNat:=by omega
 simp[Yd,execOp,ho,hx,hy,eqGuard,binOp,Op.shift,h2,h3]
theorem WA{op:BinOp}{m n:List UInt8}{side:Prop}{d:D}(hb:jP op m n=some (side,d))(hs:side):∃v,Rd w (fun _=>False) v d /\
  (∀{t u:TypeId}{x y:Operand},o.op=.binOp op t x y u->a.eval x=.string ⟨m.toArray⟩->a.eval y=.string ⟨n.toArray⟩->Yd P o a w v):=by
 have hg:∀t x y w,(eqGuard op t x y (.string ⟨m.toArray⟩) (.string ⟨n.toArray⟩)).run P w=.ok () w:=by
  intro t x y w;unfold eqGuard;cases op<;>rfl
 have hl:∀l:List UInt8,(⟨l.toArray⟩:ByteArray).toList=l:=fun l=>by rw[ByteArray.toList_eq]
 cases op<;>simp only[jP,Option.some.injEq,Prod.mk.injEq,reduceCtorEq] at hb
 case add =>
  obtain⟨h1,rfl⟩:=hb;rw[<-h1] at hs;refine⟨.string ⟨(m++n).toArray⟩,Rd.str (by simpa using hs),fun ho hx hy=>?_⟩
  have h2:(m.length:Int)+n.length<=9223372036854775807:=by
   simp only[maxLen] at hs;omega
  have h3:(⟨m.toArray⟩++⟨n.toArray⟩:ByteArray)=⟨(m++n).toArray⟩:=by
   apply ByteArray.ext;simp
  have h4:(⟨m.toArray⟩:ByteArray).size=m.length:=rfl;have h5:(⟨n.toArray⟩:ByteArray).size=n.length:=rfl;simp[Yd,execOp,ho,hx,hy,hg,binOp,Op.stringOp,h2,h3,h4,h5]
 all_goals
  obtain⟨-,rfl⟩:=hb;exact⟨_,Rd.bool,fun ho hx hy=>by simp[Yd,execOp,ho,hx,hy,hg,binOp,Op.stringOp,hl]⟩
theorem LQ{op:BinOp}{m n:Bool}{side:Prop}{d:D}(hb:o5 op m n=some (side,d)):∃v,Rd w (fun _=>False) v d /\
  (∀{t u:TypeId}{x y:Operand},o.op=.binOp op t x y u->a.eval x=.bool m->a.eval y=.bool n->P.underlying t=some .bool->Yd P o a w v):=by
 have hg:∀t x y w,(eqGuard op t x y (.bool m) (.bool n)).run P w=.ok () w:=by
  intro t x y w;unfold eqGuard;cases op<;>rfl
 cases op<;>simp only[o5,Option.some.injEq,Prod.mk.injEq,reduceCtorEq] at hb
 all_goals
  obtain⟨-,rfl⟩:=hb;exact⟨_,Rd.bool,fun ho hx hy ht=>by simp[Yd,execOp,ho,hx,hy,hg,binOp,Op.equal,Op.maxDepth,run_equalIn_bool' (P:=P) _ _ _ _ _ ht]⟩
theorem XK{c x y:Operand}(ho:o.op=.pick c x y){cb p q:Bool}(hc:a.eval c=.bool cb)(hx:cb=true->a.eval x=.bool p)(hy:cb=false->a.eval y=.bool q) :
  Yd P o a w (.bool (mI cb p q)):=by
 cases cb
 ·simp[Yd,execOp,ho,hc,hy,asBool,mI]
 ·simp[Yd,execOp,ho,hc,hx,asBool,mI]
theorem XJ{x:Operand}{t:TypeId}(ho:o.op=.unOp .not t x){b:Bool}(hx:a.eval x=.bool b):Yd P o a w (.bool (!b)):=by
 simp[Yd,execOp,ho,hx,Op.unary]
theorem iH{k:IntKind}{n:Int}(h:k.has n):k.wrap n=n:=by
 obtain⟨h1,h2⟩:=h;cases k<;>simp[IntKind.min,IntKind.max,IntKind.wrap,IntKind.signed,IntKind.bits] at *<;>(first | omega | (split<;>omega))
theorem Xx{s d:TypeId}{x:Operand}(ho:o.op=.convert s d x){k0 k1 k:IntKind}(h1:P.underlying s=some (.int k1))(h2:P.underlying d=some (.int k)){n:Int}(hx:a.eval x=.int k0 n)(hn:k0.has n) :
  Yd P o a w (.int k (if k0=k then n else k.wrap n))/\k.has (if k0=k then n else k.wrap n):=by
 have:Yd P o a w (.int k (k.wrap n)):=by simp[Yd,execOp,ho,hx,convert,run_underlying h1,run_underlying h2,Conv.intToInt]
 by_cases hk:k0=k
 ·subst hk;simp only[if_true];rw[iH hn] at this;exact⟨this,hn⟩
 ·simp only[hk,if_false];exact⟨this,vK _ _⟩
def ue:Bool->Builtin
 | true=>.max
 | false=>.min
theorem XI{mx:Bool}{k:IntKind}{m n:Int}{ts:Array TypeId}{x y:Operand}(ho:o.op=.call { callee:=.builtin (ue mx),args:=#[x,y],argTypes:=ts })(hx:a.eval x=.int k m)(hy:a.eval y=.int k n):Yd P o a w (.int k (ll mx m n)):=by
 cases mx
 ·simp only[ue] at ho
  have e:(if n<m then n else m)=min m n:=by split<;>omega
  simp[Yd,execOp,ho,hx,hy,resolve,invoke,builtin,Builtin.min_,Builtin.min2,ll,e]
 ·simp only[ue] at ho
  have e:(if m<n then n else m)=max m n:=by split<;>omega
  simp[Yd,execOp,ho,hx,hy,resolve,invoke,builtin,Builtin.max_,Builtin.max2,ll,e]
theorem Pn{mx:Bool}{k:IntKind}{m n:Int}(hm:k.has m)(hn:k.has n):k.has (ll mx m n):=by
 obtain⟨h1,h2⟩:=hm;obtain⟨h3,h4⟩:=hn;cases mx<;>exact⟨by simp only[ll];omega,by simp only[ll];omega⟩
theorem XF{t e:TypeId}{x:Operand}(ho:o.op=.call { callee:=.builtin .len,args:=#[x],argTypes:=#[t] })(ht:P.underlying t=some (.slice e)){p:Option Addr}{n c:Nat}
  (hx:a.eval x=.slice p n c):Yd P o a w (.int .i64 n):=by
 simp[Yd,execOp,ho,hx,resolve,invoke,builtin,Builtin.len_,run_underlying ht,goInt]
theorem XG{t:TypeId}{x:Operand}(ho:o.op=.call { callee:=.builtin .len,args:=#[x],argTypes:=#[t] })(ht:P.underlying t=some .string){l:List UInt8}
  (hx:a.eval x=.string ⟨l.toArray⟩):Yd P o a w (.int .i64 l.length):=by
 simp[Yd,execOp,ho,hx,resolve,invoke,builtin,Builtin.len_,run_underlying ht,goInt];rfl
theorem K7{t e:TypeId}{x i:Operand}(ho:o.op=.indexAddr t x i)(ht:P.underlying t=some (.slice e)){sz:Nat}{inf:TypeInfo}(hi:P.info? e=some inf)(hsz:inf.size=sz)
  {b off n c:Nat} (hx:a.eval x=.slice (some ⟨b,off,none⟩) n c) {k:IntKind} {m:Int} (hm:a.eval i=.int k m) (h0 : 0<=m) (h1:m<n):Yd P o a w (.pointer (some ⟨b,off+m.toNat*sz,none⟩)):=by
 have hadd:(⟨b,off,none⟩:Addr).add (m.toNat*sz)=⟨b,off+m.toNat*sz,none⟩:=by
  unfold Addr.add;split<;>simp_all
 simp[Yd,execOp,ho,hx,hm,Instr.indexAt,asIntOf,run_underlying ht,h0,h1,sizeOf,typeInfo,hi,hsz,hadd]
theorem tF{t:TypeId}(h:ji P t=true):(isAgg t).run P w=.ok false w:=by
 unfold ji at h;cases hu:P.underlying t with
 | none=>simp[hu] at h
 | some d=>cases d<;>simp[hu] at h<;>simp[isAgg,run_underlying hu]
theorem xB{t:TypeId}(h:lM P t=true):(isAgg t).run P w=.ok true w:=by
 unfold lM at h;cases hu:P.underlying t with
 | none=>simp[hu] at h
 | some d=>cases d<;>simp[hu] at h<;>simp[isAgg,run_underlying hu]
theorem vk{t:TypeId}{n:Nat}(h:dB P t n=true):(sizeOf t).run P w=.ok n w:=by
 unfold dB at h;cases hi:P.info? t with
 | none=>simp[hi] at h
 | some i=>simp[hi] at h;simp[sizeOf,typeInfo,hi,h]
theorem XD{t:TypeId}{x:Operand}(ho:o.op=.load t x)(ht:ji P t=true){b off:Nat}(hx:a.eval x=.pointer (some ⟨b,off,none⟩)){v:Value}(hc:w.cell? ⟨b,off,none⟩=some v):Yd P o a w v:=by
 simp[Yd,execOp,ho,hx,Instr.loadAt,Instr.sureAddr,loadVar,tF ht,hc]
theorem XE{t:TypeId}{x:Operand}{n:Nat}(ho:o.op=.load t x)(ht:lM P t=true)(hn:dB P t n=true){b off:Nat}(hx:a.eval x=.pointer (some ⟨b,off,none⟩)){cs:List Value}
  (hl:cs.length=n) (hc:∀j v,cs[j]?=some v->w.cell? ⟨b,off+j,none⟩=some v):Yd P o a w (.agg cs.toArray):=by
 have h:=run_loadCells_list (P:=P) w ⟨b,off,none⟩ cs (fun j v hj=>by
  have hadd:(⟨b,off,none⟩:Addr).add j=⟨b,off+j,none⟩:=by unfold Addr.add;split<;>simp_all
  rw[hadd];exact hc j v hj)
 simp[Yd,execOp,ho,hx,Instr.loadAt,Instr.sureAddr,loadVar,xB ht,vk hn,<-hl,h]
theorem vL{t:TypeId}{x:Operand}{f:Nat}(ho:o.op=.fieldAddr t x f){off:Nat}{ft:TypeId}(hf:im P t f=some (off,ft))(hz:dB P ft 0=false)(hs:(P.info? ft).isSome=true){b k:Nat}
  (hx:a.eval x=.pointer (some ⟨b,k,none⟩)):Yd P o a w (.pointer (some ⟨b,k+off,none⟩)):=by
 unfold im at hf;cases hu:P.underlying t with
 | none=>simp[hu] at hf
 | some d =>
  cases d<;>simp[hu] at hf;obtain⟨fl,hfl,h1,h2⟩:=hf;subst h2;subst h1;cases hi:P.info? fl.type with
  | none=>simp[hi] at hs
  | some i =>
   have hne:¬i.size=0:=by simpa[dB,hi] using hz
   have hadd:(⟨b,k,none⟩:Addr).add fl.offset=⟨b,k+fl.offset,none⟩:=by unfold Addr.add;split<;>simp_all
   simp[Yd,execOp,ho,hx,Instr.fieldAt,run_underlying hu,hfl,Instr.sureAddr,fieldPlace,sizeOf,typeInfo,hi,hne,hadd]
theorem yN{t:TypeId}(ht:ji P t=true){cs:Array Value}{off:Nat}(h:off<cs.size):(part t cs off).run P w=.ok (cs.getD off undef) w:=by
 simp[part,tF ht,h]
theorem S7{t:TypeId}{n:Nat}(ht:lM P t=true)(hn:dB P t n=true){cs:Array Value}{off:Nat}:(part t cs off).run P w=.ok (.agg (cs.extract off (off+n))) w:=by
 simp[part,xB ht,vk hn]
theorem XA{t:TypeId}{x:Operand}{f:Nat}(ho:o.op=.field t x f){off:Nat}{ft:TypeId}(hf:im P t f=some (off,ft))(hc:ji P ft=true){cs:Array Value}
  (hx:a.eval x=.agg cs) (hoff:off<cs.size):Yd P o a w (cs.getD off undef):=by
 unfold im at hf;cases hu:P.underlying t with
 | none=>simp[hu] at hf
 | some d =>
  cases d<;>simp[hu] at hf;obtain⟨fl,hfl,h1,h2⟩:=hf;subst h2;subst h1;simp[Yd,execOp,ho,hx,Instr.field,run_underlying hu,hfl,asAgg,yN hc hoff]
theorem XB{t:TypeId}{x:Operand}{f:Nat}(ho:o.op=.field t x f){off n:Nat}{ft:TypeId}(hf:im P t f=some (off,ft))(hc:lM P ft=true)(hn:dB P ft n=true){cs:Array Value}
  (hx:a.eval x=.agg cs):Yd P o a w (.agg (cs.extract off (off+n))):=by
 unfold im at hf;cases hu:P.underlying t with
 | none=>simp[hu] at hf
 | some d =>
  cases d<;>simp[hu] at hf;obtain⟨fl,hfl,h1,h2⟩:=hf;subst h2;subst h1;simp[Yd,execOp,ho,hx,Instr.field,run_underlying hu,hfl,asAgg,S7 hc hn]
theorem XC{t:TypeId}{x i:Operand}(ho:o.op=.index t x i)(ht:P.underlying t=some .string){l:List UInt8}(hx:a.eval x=.string ⟨l.toArray⟩){k:IntKind}{m:Int}(hm:a.eval i=.int k m)
  (h0 : 0<=m) (h1:m<l.length):Yd P o a w (.int .u8 (l.getD m.toNat 0).toNat)/\IntKind.u8.has ((l.getD m.toNat 0).toNat:Int):=by
 have hlt:m.toNat<l.length:=by omega
 have hs:(⟨l.toArray⟩:ByteArray)[m.toNat]?=some (l.getD m.toNat 0):=by
  show(if h:m.toNat<(⟨l.toArray⟩:ByteArray).size then some _ else none)=_;rw[dif_pos (show m.toNat<(⟨l.toArray⟩:ByteArray).size from hlt)];simp[List.getD,hlt];rfl
 refine⟨?_,?_⟩
 ·simp[Yd,execOp,ho,hx,hm,Instr.index,asIntOf,run_underlying ht,h0,hs]
 ·generalize l.getD m.toNat 0=c
  have:=c.toNat_lt;constructor<;>simp[IntKind.min,IntKind.max,IntKind.signed,IntKind.bits]<;>omega
theorem Xz{x:Operand}{i:Nat}(ho:o.op=.extract x i){cs:Array Value}(hx:a.eval x=.tuple cs)(hi:i<cs.size):Yd P o a w (cs.getD i undef):=by
 simp[Yd,execOp,ho,hx,Instr.extract,hi]
theorem vN{x:Operand}(ho:o.op=.nilCheck x){p:Addr}(hx:a.eval x=.pointer (some p)):Yd P o a w (.pointer (some p)):=by
 simp[Yd,execOp,ho,hx]
theorem K8{x:Operand}(ho:o.op=.nilCheck x){f:FuncId}{l r:Array Value}(hx:a.eval x=.func (.func f) l r):Yd P o a w (.func (.func f) l r):=by
 simp[Yd,execOp,ho,hx]
end
end Go.D3
namespace Go.D3
open Go
section
variable{w:World}{ct:Nat->D}{vl:Nat->Value}{A:Nat->Prop}
def Reach(w:World)(ct:Nat->D)(vl:Nat->Value)(k:Nat)(p:Path)(v:Value)(y:D):Prop :=
 ∀q,y.has q->(ct k).aX (p++q)/\aN w (vl k) (ct k) (p++q)=aN w v y q/\(q≠[]->aH w (vl k) (ct k) (p++q)=aH w v y q)
theorem Reach.aZ{k:Nat}{p:Path}{v:Value}{y:D}(h:Reach w ct vl k p v y){i off:Nat}(hk:y.kf i off){u:Value}(hu:cF w v y i off=some u):Reach w ct vl k (p++[(i,off)]) u (y.aZ i off):=by
 intro q hq;obtain⟨h1,h2,h3⟩:=h ((i,off)::q) ⟨hk,hq⟩;rw[List.append_assoc,List.singleton_append];refine⟨h1,?_,fun hne=>?_⟩
 ·rw[h2];simp only[aN,hu,Option.bind_some]
 ·rw[h3 (by simp)]
  cases q with
  | nil=>exact absurd rfl hne
  | cons t q=>simp only[aH,hu,Option.bind_some]
theorem Reach.root{k:Nat}{x:D}{F:Nat->Prop}(hc:ct k=.o x)(h:an w A (vl k) x F):Reach w ct vl k [] (vl k) x:=by
 intro q hq;rw[List.nil_append,hc];exact⟨hq,(gP h w q).1,fun _=>(gP h w q).2⟩
theorem Reach.part{R:Value->D->Prop}{k:Nat}{F:Nat->Prop}(h:aK w A R (vl k) F (ct k)){p:Path}(hp:(ct k).aX p)(hne:p≠[]){u:Value}(hu:aN w (vl k) (ct k) p=some u){F':Nat->Prop}
  (hlv:bz (ct k) p=true->(ct k).at p=.o ((ct k).bm p)) (hown:an w A u ((ct k).bm p) F'):Reach w ct vl k p u ((ct k).bm p):=by
 intro q hq
 have hval:∀q,aN w u ((ct k).at p) q=aN w u ((ct k).bm p) q/\aH w u ((ct k).at p) q=aH w u ((ct k).bm p) q:=by
  intro q;by_cases hl:(ct k).at p=.o ((ct k).bm p)
  ·rw[hl];exact gP hown w q
  ·have:(ct k).at p=(ct k).bm p:=by
    unfold D.bm at hl|-
    generalize(ct k).at p=z at hl|-
    cases z<;>first | rfl | (exfalso;exact hl rfl)
   rw[this];exact⟨rfl,rfl⟩
 refine⟨?_,?_,fun hq'=>?_⟩
 ·revert hp hlv hq
  unfold D.bm;intro hp hlv hq;cases hc:ct k<;>rw[hc] at hp hlv hq<;>try exact hp.elim
  case row z l=>exact absurd hp hne
  case o x =>
   rw[hc] at h;rw[D.lP h hne] at hq
   have hx:(x.at p).un=x.at p:=by
    obtain⟨_,_,_,g1,g2,_⟩:=an.splitAt p h hp;exact g2.un.1
   rw[hx] at hq;exact(ma x p q).2 ⟨hp,hq⟩
  case box l =>
   cases p with
   | nil=>exact absurd rfl hne
   | cons s p =>
    obtain⟨i,off⟩:=s;obtain⟨rfl,ho,hp⟩:=hp;have hk:D.aZ (.box l) 0 off=l.getD off .dead:=rfl;cases p with
    | nil =>
     cases q with
     | nil=>exact⟨rfl,ho,trivial⟩
     | cons t q =>
      have hat:=hlv rfl;have e:(D.box l).at [(0,off)]=l.getD off .dead:=rfl;rw[e] at hat hq;refine⟨rfl,ho,?_⟩;rw[hat];exact hq
    | cons t p =>
     simp only at hp;split at hp
     ·rename_i y hy
      rw[hc] at h;obtain⟨_,b,cs,e,Fs,h1,h2,h3,h4,h5,h6,h7⟩:=h
      have hget:l[off]?=some (.o y):=by
       rw[List.getD_eq_getElem?_getD,List.getElem?_eq_getElem ho] at hy;rw[List.getElem?_eq_getElem ho];simpa using hy
      have hown':=h4 off _ hget;simp only[b7] at hown';have e:(D.box l).at ((0,off)::t::p)=y.at (t::p):=by rw[D.at,hk,hy,D.lP hown' (by simp)]
      rw[e] at hq
      have hx:(y.at (t::p)).un=y.at (t::p):=by
       obtain⟨_,_,_,g1,g2,_⟩:=an.splitAt (t::p) hown' hp;exact g2.un.1
      rw[hx] at hq;refine⟨rfl,ho,?_⟩;rw[hy];exact(ma y (t::p) q).2 ⟨hp,hq⟩
     ·exact hp.elim
 ·rw[Xa,hu,Option.bind_some];exact(hval q).1
 ·rw[qt w p q _ _ hq',hu,Option.bind_some];exact(hval q).2
theorem xg(k:Nat)(p:Path):∀(l:List D)(j n:Nat),(jr k p j l)[n]?=(l[n]?).map (di k (p++[(0,j+n)]))
 | [],j,n=>by simp[jr]
 | x::r,j,0=>by simp[jr]
 | x::r,j,n+1=>by
  simp only[jr,List.getElem?_cons_succ,xg k p r (j+1) n];rw[show j+1+n=j+(n+1) by omega]
theorem xh(k:Nat)(p:Path):∀(l:List D)(j:Nat),(jr k p j l).length=l.length
 | [],_=>rfl
 | x::r,j=>by simp[jr,xh k p r]
theorem FD(c:D)(p:Path)(s t:Nat×Nat):bz c (p++[s]++[t])=false:=by
 have:∃a b r,p++[s]++[t]=a::b::r:=by
  cases p with
  | nil=>exact⟨s,t,[],rfl⟩
  | cons a p=>cases p with
   | nil=>exact⟨a,s,[t],rfl⟩
   | cons b p=>exact⟨a,b,p++[s]++[t],rfl⟩
 obtain⟨a,b,r,h⟩:=this;rw[h];cases c<;>rfl
theorem xi{k:Nat}(y:D):∀{p:Path}{v:Value}{F:Nat->Prop},an w A v y F->(bz (ct k) p=true->((ct k).at p).gY=true)->(∀s,bz (ct k) (p++[s])=false)->Reach w ct vl k p v y->Pl w A (aj w ct vl) v (di k p y):=by
 induction y using D.ind with
 | int a n=>intro p v F h _ _ _;cases h with | int h=>exact .rd (.int h)
 | bool b=>intro p v F h _ _ _;cases h;exact .rd .bool
 | str s=>intro p v F h _ _ _;cases h with | str h=>exact .rd (.str h)
 | bp=>intro p v F h _ _ _;cases h;exact .rd .bp
 | fn f caps _=>intro p v F h _ _ _;cases h;exact .rd (.fn rfl (fun j x hx=>by simp at hx))
 | vw x _=>intro p v F h _ _ _;cases h with | vw h=>exact .rd h
 | slice z l _ _ =>
  intro p v F h hS hN hr;obtain⟨h1,h2,_⟩:=hr [] trivial;rw[List.append_nil] at h1 h2;refine .ref ⟨⟨h1,hS⟩,h2,?_⟩;cases h with
  | nil=>exact .inl ⟨_,_,_,rfl⟩
  | slice=>exact .inl ⟨_,_,_,rfl⟩
 | mp ks vs _ _ =>
  intro p v F h hS hN hr;obtain⟨h1,h2,_⟩:=hr [] trivial;rw[List.append_nil] at h1 h2;refine .ref ⟨⟨h1,hS⟩,h2,?_⟩;cases h with
  | mp=>exact .inr ⟨_,rfl⟩
 | bO=>intro p v F h _ _ _;cases h;exact .rd .bO
 | bj=>intro p v F h _ _ _;cases h;exact .rd .bj
 | bR s p=>intro p v F h _ _ _;exact Pl.dead
 | eF n=>intro p v F h _ _ _;exact Pl.dead
 | bD t x _=>intro p v F h _ _ _;cases h with | bD h=>exact .rd (.bD h)
 | ptr l _ =>
  intro p v F h hS hN hr;cases l with
  | nil=>exact Pl.dead
  | cons x r =>
   have hun:=h.un.1;obtain⟨h1,_,h3⟩:=hr [(0,0)] ⟨by unfold D.kf;rw[hun];exact⟨rfl,by simp⟩,trivial⟩;have h3:=h3 (by simp);simp only[di];cases h with
   | ptr Fs hb hs hr' hF hfs hdis =>
    refine .ref ⟨h1,_,h3,?_⟩;simp only[Nat.add_zero]
 | agg l ih =>
  intro p v F h hS hN hr;cases h with
  | @agg cs _ _ Fs hs hr' hfs hdis =>
   refine .agg (by rw[xh];exact hs) fun j x hx=>?_
   rw[xg,Option.map_eq_some_iff] at hx;obtain⟨y,hy,rfl⟩:=hx;obtain⟨hj,hy'⟩:=List.getElem?_eq_some_iff.1 hy;rw[Nat.zero_add]
   have hk:(D.agg l).aZ 0 j=y:=by
    show l.getD j .dead=y;rw[List.getD_eq_getElem?_getD,hy];rfl
   have:=Reach.aZ (i:=0) (off:=j) (u:=cs.getD j undef) hr ⟨rfl,hj⟩ rfl;rw[hk] at this;exact ih y (List.mem_of_getElem? hy) (hr' j y hy) (fun hl=>by rw[hN] at hl;cases hl) (fun s=>FD _ _ _ s) this
 | au l ih =>
  intro p v F h hS hN hr;cases h with
  | @au cs _ _ Fs hs hr' hfs hdis =>
   refine .au (by rw[xh];exact hs) fun j x hx=>?_
   rw[xg,Option.map_eq_some_iff] at hx;obtain⟨y,hy,rfl⟩:=hx;obtain⟨hj,hy'⟩:=List.getElem?_eq_some_iff.1 hy;rw[Nat.zero_add]
   have hk:(D.au l).aZ 0 j=y:=by
    show l.getD j .dead=y;rw[List.getD_eq_getElem?_getD,hy];rfl
   have:=Reach.aZ (i:=0) (off:=j) (u:=cs.getD j undef) hr ⟨rfl,hj⟩ rfl;rw[hk] at this;exact ih y (List.mem_of_getElem? hy) (hr' j y hy) (fun hl=>by rw[hN] at hl;cases hl) (fun s=>FD _ _ _ s) this
 | _=>intro p v F h _ _ _;exact Pl.dead
def ch(w:World)(A:Nat->Prop)(R:Value->D->Prop)(v:Value)(d:D):Prop:=(d.gate=true->Pl w A R v d.core)/\(d.gate=false->v=undef)
theorem Mo{d:D}(h:∀g x,d≠.when g x):d.core=d/\d.gate=true:=by
 cases d<;>first | exact⟨rfl,rfl⟩ | exact absurd rfl (h _ _)
theorem Pl.ou{R:Value->D->Prop}{v:Value}{d:D}(h:Pl w A R v d)(hR:∀v g x,¬R v (.when g x)):ch w A R v d:=by
 have:∀g x,d≠.when g x:=by
  rintro g x rfl;cases h with
  | rd h=>cases h
  | ref h=>exact hR _ _ _ h
 obtain⟨h1,h2⟩:=Mo this;exact⟨fun _=>by rw[h1];exact h,fun hh=>by rw[h2] at hh;cases hh⟩
theorem oz(v:Value)(g:Bool)(x:D):¬aj w ct vl v (.when g x):=fun h=>h
theorem mH{k:Nat}{F:Nat->Prop}(h:aK w A (aj w ct vl) (vl k) F (ct k)):ch w A (aj w ct vl) (vl k) (cu k (ct k)):=by
 cases hc:ct k<;>rw[hc] at h<;>try exact Pl.ou h oz
 case o x=>exact Pl.ou (xi x h (fun hl=>by rw[hc] at hl;cases hl) (fun s=>by rw[hc];rfl) (Reach.root hc h)) oz
 case box l =>
  obtain⟨h0,b,cs,e,Fs,h1,h2,h3,h4,h5,h6,h7⟩:=h;refine Pl.ou (.ref ⟨?_,⟨b,0,none⟩,?_,h1⟩) oz
  ·rw[hc];exact⟨rfl,h0,trivial⟩
  ·rw[hc,h1];rfl
 case row z l =>
  refine Pl.ou (.ref ⟨?_,?_,?_⟩) oz
  ·rw[hc];exact⟨rfl,fun hl=>by cases hl⟩
  ·rfl
  ·obtain⟨b,sz,cs,e,h1,_⟩:=h
   exact .inl ⟨_,_,_,h1⟩
 case when g c =>
  obtain⟨h1,h2⟩:=h;have key:∀(c:D),(g=true->Pl w A (aj w ct vl) (vl k) c)->(g=true->ch w A (aj w ct vl) (vl k) c):=fun c h hg=>(h hg).ou oz
  have h1:=key c h1;show ch w A _ _ (.when g c);cases g with
  | true=>exact⟨fun hg=>(h1 rfl).1 (by simpa[D.gate] using hg),fun hg=>(h1 rfl).2 (by simpa[D.gate] using hg)⟩
  | false=>exact⟨fun hg=>by simp[D.gate] at hg,fun _=>h2 rfl⟩
theorem FC{c:D}{p:Path}(hp:p≠[])(s:Nat×Nat):bz c (p++[s])=false:=by
 cases p with
 | nil=>exact absurd rfl hp
 | cons a p=>cases p<;>cases c<;>rfl
theorem xU{k:Nat}{F:Nat->Prop}(h:aK w A (aj w ct vl) (vl k) F (ct k)){p:Path}(hp:(ct k).aX p)(hne:p≠[]){a:Addr}(ha:aH w (vl k) (ct k) p=some a) :
  ∃u,w.cell? a=some u/\a.spot=none/\Pl w A (aj w ct vl) u (nY k (ct k) p):=by
 obtain⟨u,F1,F2,g1,g2,g3,g4,g5,g6,g7⟩:=h.splitAt hp hne;obtain⟨j1,j2,j3,_⟩:=g7 a ha;refine⟨u,j3,j2,?_⟩;unfold nY fI at *;cases hl:bz (ct k) p with
 | true =>
  rw[hl] at g2;simp only at g2|-
  generalize hc:(ct k).at p=c at g2;cases c<;>try exact g2
  all_goals try exact g2.elim
  case o x =>
   have hd:(ct k).bm p=x:=by unfold D.bm;rw[hc];rfl
   have:=Reach.part h hp hne g1 (fun _=>by rw[hd,hc]) (by rw[hd];exact g2);rw[hd] at this;exact xi x g2 (fun _=>by rw[hc];rfl) (FC hne) this
 | false =>
  rw[hl] at g2;simp only at g2|-
  have hd:(ct k).bm p=(ct k).at p:=g2.un.1;have:=Reach.part h hp hne g1 (fun hh=>by rw[hl] at hh;cases hh) (by rw[hd];exact g2);rw[hd] at this;exact xi _ g2 (fun hh=>by rw[hl] at hh;cases hh) (FC hne) this
theorem lF{k:Nat}{F:Nat->Prop}(h:aK w A (aj w ct vl) (vl k) F (ct k)){p:Path}{v:Value}(hr:aj w ct vl v (.sub k p)) :
  (∃z l,ct k=.row z l/\p=[]/\v=vl k)\/(∃F',an w A v ((ct k).bm p) F'/\(∀b,F' b->F b)/\Reach w ct vl k p v ((ct k).bm p)/\(∀z l,ct k≠.row z l)):=by
 obtain⟨⟨h1,hS⟩,h2,hsl⟩:=hr;cases p with
 | nil =>
  simp only[aN,Option.some.injEq] at h2;cases hc:ct k<;>rw[hc] at h h1<;>try exact h1.elim
  case o x =>
   refine .inr ⟨F,by rw[<-h2];exact h,fun _ h=>h,?_,by simp⟩;rw[<-h2];exact Reach.root hc h
  case box l =>
   obtain⟨_,b,cs,e,Fs,h3,_⟩:=h;rw[<-h2,h3] at hsl;rcases hsl with⟨_,_,_,hh⟩ | ⟨_,hh⟩<;>cases hh
  case row z l=>exact .inl ⟨z,l,rfl,rfl,h2.symm⟩
 | cons s p =>
  obtain⟨u,F1,F2,g1,g2,g3,g4,g5,g6,g7⟩:=h.splitAt h1 (by simp);rw[g1] at h2;injection h2 with h2
  subst h2
  have hrow:∀z l,ct k≠.row z l:=by
   intro z l hc;rw[hc] at h1;exact absurd h1 (by simp[D.aX])
  unfold fI at g2;cases hl:bz (ct k) (s::p) with
  | false =>
   rw[hl] at g2;simp only at g2;have hd:(ct k).bm (s::p)=(ct k).at (s::p):=g2.un.1;have hown:an w A u ((ct k).bm (s::p)) F1:=by rw[hd];exact g2
   exact .inr ⟨F1,hown,g3,Reach.part h h1 (by simp) g1 (fun hh=>by rw[hl] at hh;cases hh) hown,hrow⟩
  | true =>
   rw[hl] at g2;simp only at g2;obtain⟨x,hat⟩:=xD (hS hl);rw[hat] at g2;have hd:(ct k).bm (s::p)=x:=by unfold D.bm;rw[hat];rfl
   have hown:an w A u ((ct k).bm (s::p)) F1:=by rw[hd];exact g2
   exact .inr ⟨F1,hown,g3,Reach.part h h1 (by simp) g1 (fun _=>by rw[hd,hat]) hown,hrow⟩
end
end Go.D3
namespace Go.D3
open Go
def c6:List UInt8->List UInt8->Bool
 | [],[]=>true
 | a::l,b::r=>a == b&&c6 l r
 | _,_=>false
def aJ(ds:List (Option Nat))(tr:List Nat)(x:Operand)(y:X):Bool :=
 match x,y with
 | .tmp t,.t i=>decide (ds[i]?=some (some t))
 | .tmp t,.v j=>decide (tr[j]?=some t)
 | .const (.int k n),.i m=>decide (k=.i64)&&decide (n=m)&&rn k n
 | .const (.int k n),.k (.int k' m)=>decide (k=k')&&decide (n=m)&&rn k n
 | .const (.bool b),.k (.bool c)=>b == c
 | .const (.string s),.k (.str l)=>c6 s.data.toList l&&decide (l.length<=65536)
 | .const (.slice none 0 0),.k (.aB _)=>true
 | .const (.pointer none),.k .bp=>true
 | .func f,.k (.fn f' [])=>f == f'
 | .global g,.g n=>g == n&&(gl n).isSome
 | .const .nilIface,.k .bj=>true
 | _,_=>false
def eK(ds:List (Option Nat))(tr:List Nat):List Operand->List X->Bool
 | [],[]=>true
 | x::l,y::r=>aJ ds tr x y&&eK ds tr l r
 | _,_=>false
def nU(ds:List (Option Nat))(tr:List Nat):Option Operand->Option X->Bool
 | none,none=>true
 | some x,some y=>aJ ds tr x y
 | _,_=>false
def iJ(v:Value)(d:D):Bool :=
 match v,d with
 | .int k n,.int k' m=>decide (k=k')&&decide (n=m)&&rn k n
 | .bool b,.bool c=>b == c
 | .string s,.str []=>s.data.toList.isEmpty
 | .nilFunc,.dead=>true
 | .slice none 0 0,.slice _ []=>true
 | .pointer none,.bp=>true
 | .map none,.bO=>true
 | .nilIface,.bj=>true
 | _,_=>false
def ql:List Value->List D->Bool
 | [],[]=>true
 | v::l,d::r=>iJ v d&&ql l r
 | _,_=>false
def nk(P:Program)(t:TypeId)(zs:List D):Bool :=
 match P.info? t with
 | some i=>match i.zero with
  | some z=>ql z.cells.toList zs&&decide (i.size=zs.length)
  | none=>false
 | none=>false
def lH:D->D
 | .aB z=>.slice z []
 | d=>d
def ml(P:Program)(t:TypeId)(k:Nat):Bool:=match P.underlying t,k with
 | some (.int _),0=>true
 | some .bool,1=>true
 | some .string,2=>true
 | _,_=>false
def eqFields(P:Program):Nat->List Field->List Nat->Bool
 | _,[],[]=>true
 | i,f::r,k::ks=>f.name != "_"&&decide (f.offset=i)&&ml P f.type k&&eqFields P (i+1) r ks
 | _,_,_=>false
def nS(P:Program)(ds:List (Option Nat))(tr:List Nat)(t:TypeId):List (Nat×Operand)->List (Nat×Nat×X)->Bool
 | [],[]=>true
 | (i,x)::l,(off,n,y)::r=>(match im P t i with
     | some (o,ft)=>decide (o=off)&&dB P ft n
     | none=>false)&&aJ ds tr x y&&nS P ds tr t l r
 | _,_=>false
def El(P:Program)(t:TypeId):Bool:=match P.underlying t with
 | some (.struct fs)=>fs.toList.all fun f=>(P.info? f.type).isSome
 | _=>false
def jy(ds:List (Option Nat))(tr:List Nat):List (Nat×Operand)->List (Nat×X)->Bool
 | [],[]=>true
 | (i,x)::l,(j,y)::r=>i == j&&aJ ds tr x y&&jy ds tr l r
 | _,_=>false
def uA:Op->Option Operand
 | .move x=>some x
 | .assign x=>some x
 | _=>none
def yF:Op->Option (Operand×Operand×Operand)
 | .pick c a b=>some (c,a,b)
 | _=>none
def og:Op->Option (BinOp×TypeId×Operand×Operand)
 | .binOp op t x y _=>some (op,t,x,y)
 | _=>none
def yD:Op->Option Operand
 | .unOp .not _ x=>some x
 | _=>none
def rr:Op->Option (TypeId×TypeId×Operand)
 | .convert s d x=>some (s,d,x)
 | _=>none
def lu(b:Builtin):Op->Option (List Operand×List TypeId)
 | .call c=>match c.callee with
  | .builtin b'=>if b=b' then some (c.args.toList,c.argTypes.toList) else none
  | _=>none
 | _=>none
def oh:Op->Option (FuncId×List Operand)
 | .call c=>match c.callee with
  | .value (.func f)=>some (f,c.args.toList)
  | _=>none
 | _=>none
def yq:Op->Option (Operand×List Operand)
 | .call c=>match c.callee with
  | .value x=>some (x,c.args.toList)
  | _=>none
 | _=>none
def yu:Op->Option (TypeId×Operand×Operand)
 | .indexAddr t x i=>some (t,x,i)
 | _=>none
def uz:Op->Option (TypeId×Operand)
 | .load t x=>some (t,x)
 | _=>none
def rv:Op->Option (TypeId×Operand×Operand)
 | .store t x y=>some (t,x,y)
 | _=>none
def yt:Op->Option (TypeId×Operand×Nat)
 | .fieldAddr t x f=>some (t,x,f)
 | _=>none
def uy:Op->Option (TypeId×Operand×Nat)
 | .field t x f=>some (t,x,f)
 | _=>none
def ym:Op->Option (TypeId×Array (Nat×Operand))
 | .build t ps=>some (t,ps)
 | _=>none
def yv:Op->Option (TypeId×Operand×Operand)
 | .index t x i=>some (t,x,i)
 | _=>none
def yr:Op->Option (Operand×Nat)
 | .extract x i=>some (x,i)
 | _=>none
def yC:Op->Option Operand
 | .nilCheck x=>some x
 | _=>none
def ux:Op->Option (TypeId×Operand)
 | .box t x=>some (t,x)
 | _=>none
def yl:Op->Option TypeId
 | .alloc t=>some t
 | _=>none
def yz:Op->Option (TypeId×Operand×Operand)
 | .makeSlice t x y=>some (t,x,y)
 | _=>none
def uw:Op->Option (TypeId×Nat×Array (Nat×Operand))
 | .buildSlice t n ps=>some (t,n,ps)
 | _=>none
def uC:Op->Option (TypeId×Operand×Option Operand×Option Operand)
 | .slice t x lo hi none=>some (t,x,lo,hi)
 | _=>none
def yx:Op->Option TypeId
 | .makeMap t none=>some t
 | _=>none
def yw:Op->Option (TypeId×Operand×Operand×Bool)
 | .lookup t x i ok=>some (t,x,i,ok)
 | _=>none
def yB:Op->Option (TypeId×Operand×Operand×Operand)
 | .mapUpdate t m k v=>some (t,m,k,v)
 | _=>none
def pG(P:Program)(t:TypeId):Option (TypeId×TypeId):=match P.underlying t with
 | some (.map k e)=>some (k,e)
 | _=>none
def zeroV(P:Program)(t:TypeId)(d:D):Bool:=match P.info? t with
 | some i=>match i.zero with
  | some z=>iJ z d&&d.cP
  | none=>false
 | none=>false
def yG:Op->Option (TypeId×Operand)
 | .range t x=>some (t,x)
 | _=>none
def yE:Op->Option Operand
 | .next x true=>some x
 | _=>none
def yA:Op->Option (FuncId×Array Operand×Array Operand)
 | .makeFunc (.func f) first caps=>some (f,first,caps)
 | _=>none
def aY(P:Program)(ds:List (Option Nat))(tr:List Nat)(o:Oper):Kp->Bool
 | .mv y | .bo y | .bQ _ y | .jf _ y | .jg _ y=>match uA o.op with
  | some x=>aJ ds tr x y
  | none=>false
 | .pick c a b=>match yF o.op with
  | some (c',a',b')=>aJ ds tr c' c&&aJ ds tr a' a&&aJ ds tr b' b
  | none=>false
 | .bin op x y=>match og o.op with
  | some (op',_,x',y')=>decide (op=op')&&aJ ds tr x' x&&aJ ds tr y' y
  | none=>false
 | .shr x y=>match og o.op with
  | some (op',_,x',y')=>decide (op'=.shr)&&aJ ds tr x' x&&aJ ds tr y' y
  | none=>false
 | .oY op x y=>match og o.op with
  | some (op',t,x',y')=>decide (op=op')&&aJ ds tr x' x&&aJ ds tr y' y&&(match P.underlying t with | some .bool=>true | _=>false)
  | none=>false
 | .not x=>match yD o.op with
  | some x'=>aJ ds tr x' x
  | none=>false
 | .conv k x=>match rr o.op with
  | some (s,d,x')=>aJ ds tr x' x&&(match P.underlying s,P.underlying d with | some (.int _),some (.int k')=>decide (k=k') | _,_=>false)
  | none=>false
 | .len x=>match lu .len o.op with
  | some ([x'],[t])=>aJ ds tr x' x&&(iY P t).isSome
  | _=>false
 | .mm mx x y=>match lu (ue mx) o.op with
  | some ([x',y'],_)=>aJ ds tr x' x&&aJ ds tr y' y
  | _=>false
 | .pE x=>match lu .len o.op with
  | some ([x'],[t])=>aJ ds tr x' x&&(match P.underlying t with | some .string=>true | _=>false)
  | _=>false
 | .az sz x i=>match yu o.op with
  | some (t,x',i')=>aJ ds tr x' x&&aJ ds tr i' i&&decide (0<sz)&&(match iY P t with | some e=>dB P e sz | none=>false)
  | none=>false
 | .ld a=>match uz o.op with
  | some (t,a')=>aJ ds tr a' a&&ji P t
  | none=>false
 | .dj n a=>match uz o.op with
  | some (t,a')=>aJ ds tr a' a&&lM P t&&dB P t n
  | none=>false
 | .fA off a=>match yt o.op with
  | some (t,a',f)=>aJ ds tr a' a&&(match im P t f with | some (o,ft)=>decide (o=off)&&!dB P ft 0&&(P.info? ft).isSome | none=>false)
  | none=>false
 | .pj off x=>match uy o.op with
  | some (t,x',f)=>aJ ds tr x' x&&(match im P t f with | some (o,ft)=>decide (o=off)&&ji P ft | none=>false)
  | none=>false
 | .pk off n x=>match uy o.op with
  | some (t,x',f)=>aJ ds tr x' x&&(match im P t f with | some (o,ft)=>decide (o=off)&&lM P ft&&dB P ft n | none=>false)
  | none=>false
 | .gS zs parts=>match ym o.op with
  | some (t,ps)=>nk P t (zs.map lH)&&nS P ds tr t ps.toList parts&&El P t
  | none=>false
 | .pv x i=>match yv o.op with
  | some (t,x',i')=>aJ ds tr x' x&&aJ ds tr i' i&&(match P.underlying t with | some .string=>true | _=>false)
  | none=>false
 | .ext i x=>match yr o.op with
  | some (x',i')=>aJ ds tr x' x&&i == i'
  | none=>false
 | .bH x=>match yC o.op with
  | some x'=>aJ ds tr x' x
  | none=>false
 | .eqs neg ks x y=>match og o.op with
  | some (op,t,x',y')=>decide (op=if neg then .neq else .eql)&&aJ ds tr x' x&&aJ ds tr y' y&&(match P.underlying t with | some (.struct fs)=>eqFields P 0 fs.toList ks&&!P.stoodInHeld t | _=>false)&&!P.eqGuardType P.depth t
  | none=>false
 | .call f xs=>match oh o.op with
  | some (f',as)=>f == f'&&eK ds tr as xs&&ij P f
  | none=>false
 | .ik f xs=>match oh o.op with
  | some (f',as)=>f == f'&&eK ds tr as xs&&ij P f
  | none=>false
 | .gw f xs=>match oh o.op with
  | some (f',as)=>f == f'&&eK ds tr as xs&&ij P f
  | none=>false
 | .box n x=>match ux o.op with
  | some (e,x')=>aJ ds tr x' x&&dB P e n
  | none=>false
 | .fv n x | .kP n x=>match ux o.op with
  | some (e,x')=>aJ ds tr x' x&&dB P e n
  | none=>false
 | .cw zs=>match yl o.op with
  | some t=>nk P t (zs.map lH)
  | none=>false
 | .ak z bytes l c=>match yz o.op with
  | some (t,l',c')=>aJ ds tr l' l&&aJ ds tr c' c&&decide (0<z.cells.length)&&(match iY P t with | some e=>nk P e z.cells&&nC P e bytes&&decide (0<bytes) | none=>false)
  | none=>false
 | .aR z n parts=>match uw o.op with
  | some (t,n',ps)=>n == n'&&jy ds tr ps.toList parts&&decide (0<z.cells.length)&&decide (n*z.cells.length<=16777216)&&(match iY P t with | some e=>nk P e z.cells | none=>false)
  | none=>false
 | .jh z x=>match uw o.op with
  | some (t,n',ps)=>decide (n'=1)&&jy ds tr ps.toList [(0,x)]&&decide (0<z.cells.length)&&decide (z.cells.length<=16777216)&&(match iY P t with | some e=>nk P e z.cells | none=>false)
  | none=>false
 | .st a x=>match rv o.op with
  | some (t,a',x')=>aJ ds tr a' a&&aJ ds tr x' x&&dB P t 1
  | none=>false
 | .bE n a x=>match rv o.op with
  | some (t,a',x')=>aJ ds tr a' a&&aJ ds tr x' x&&dB P t n
  | none=>false
 | .iD n a x=>match rv o.op with
  | some (t,a',x')=>aJ ds tr a' a&&aJ ds tr x' x&&dB P t n
  | none=>false
 | .app sz bytes s x=>match lu .append o.op with
  | some ([s',x'],[t,t'])=>aJ ds tr s' s&&aJ ds tr x' x&&t == t'&&(match iY P t with
   | some e=>nC P e bytes&&(match P.info? e with | some i=>decide (0<sz)&&decide (0<bytes)&&decide (i.size=sz)&&i.zero.any (fun z=>decide (z.cells.size=i.size)) | none=>false) | none=>false)
  | _=>false
 | .eB sz bytes b s=>match lu .append o.op with
  | some ([s',x'],[t,t'])=>aJ ds tr s' (.t b)&&aJ ds tr x' (.t s)&&t == t'&&(match iY P t with
   | some e=>nC P e bytes&&(match P.info? e with | some i=>decide (0<sz)&&decide (0<bytes)&&decide (i.size=sz)&&i.zero.any (fun z=>decide (z.cells.size=i.size)) | none=>false) | none=>false)
  | _=>false
 | .oI x lo hi=>match uC o.op with
  | some (t,x',lo',hi')=>aJ ds tr x' x&&nU ds tr lo' lo&&nU ds tr hi' hi&&(match P.underlying t with | some .string=>true | _=>false)
  | none=>false
 | .sl x lo hi=>match uC o.op with
  | some (t,x',lo',hi')=>aJ ds tr x' x&&nU ds tr lo' lo&&nU ds tr hi' hi&&(match P.underlying t with | some (.slice e)=>dB P e 1 | _=>false)
  | none=>false
 | .pH f caps=>match yA o.op with
  | some (f',first,captured)=>f == f'&&first.isEmpty&&eK ds tr captured.toList caps
  | none=>false
 | .jZ x y=>match lu .copy o.op with
  | some ([x',y'],[t,t'])=>aJ ds tr x' x&&aJ ds tr y' y&&(match iY P t,iY P t' with | some e,some _=>dB P e 1 | _,_=>false)
  | _=>false
 | .dyn x xs=>match yq o.op with
  | some (x',as)=>aJ ds tr x' x&&eK ds tr as xs
  | none=>false
 | .gi=>(yx o.op).isSome
 | .nZ ok kk z m k=>match yw o.op with
  | some (t,m',k',ok')=>aJ ds tr m' m&&aJ ds tr k' k&&ok == ok'&&(match pG P t with | some (kt,e)=>ml P kt kk&&zeroV P e z | none=>false)
  | none=>false
 | .nX x=>match lu .len o.op with
  | some ([x'],[t])=>aJ ds tr x' x&&(pG P t).isSome
  | _=>false
 | .lp kk m k v=>match yB o.op with
  | some (t,m',k',v')=>aJ ds tr m' m&&aJ ds tr k' k&&aJ ds tr v' v&&(match pG P t with | some (kt,_)=>ml P kt kk | none=>false)
  | none=>false
 | .nI x=>match rr o.op with
  | some (s,d,x')=>aJ ds tr x' x&&(match P.underlying s,P.underlying d with
   | some (.slice e),some .string=>(match P.underlying e with | some (.int .u8)=>true | _=>false)
   | _,_=>false)
  | none=>false
 | .fZ x=>match rr o.op with
  | some (s,d,x')=>aJ ds tr x' x&&(match P.underlying s,P.underlying d with
   | some .string,some (.slice e)=>(match P.underlying e with | some (.int .u8)=>true | _=>false)
   | _,_=>false)
  | none=>false
 | .pK neg x=>match og o.op with
  | some (op',t,x',.const .nilIface)=>decide (op'=if neg then .neq else .eql)&&aJ ds tr x' x&&(match P.underlying t with | some (.interface _)=>true | _=>false)
  | _=>false
 | .eL x=>match yG o.op with
  | some (t,x')=>aJ ds tr x' x&&(match P.underlying t with | some .string=>true | _=>false)
  | none=>false
 | .lr j=>match yE o.op with
  | some x'=>aJ ds tr x' (.v j)
  | none=>false
def closure(acc:List Nat)(o:Oper):Nat:=o.after.toList.foldl (fun s e=>if Region.binds .any e=true then s ||| (1 <<< e.on ||| acc.getD e.on 0) else s) 0
def ek:List Nat->List Oper->List Nat
 | acc,[]=>acc
 | acc,o::r=>ek (acc++[closure acc o]) r
def fB(cl:List Nat)(i x:Nat):Bool:=(cl.getD i 0).testBit x
def gI:X->List Nat
 | .t n=>[n]
 | _=>[]
def y7:Option X->List Nat
 | some x=>gI x
 | none=>[]
def Kp.reads:Kp->List Nat
 | .mv x | .bo x | .bQ _ x | .jf _ x | .jg _ x | .not x | .conv _ x | .len x | .pE x | .ld x | .dj _ x | .fA _ x | .pj _ x | .pk _ _ x | .ext _ x | .bH x | .box _ x | .fv _ x | .kP _ x | .jh _ x | .nX x | .nI x | .pK _ x | .eL x | .fZ x=>gI x
 | .cw _=>[]
 | .gi | .lr _=>[]
 | .eB _ _ b s=>[b,s]
 | .pick a b c | .lp _ a b c=>gI a++gI b++gI c
 | .bin _ x y | .shr x y | .mm _ x y | .oY _ x y | .az _ x y | .pv x y | .eqs _ _ x y | .ak _ _ x y | .st x y | .bE _ x y | .iD _ x y | .jZ x y | .app _ _ x y | .nZ _ _ _ x y=>gI x++gI y
 | .gS _ ps=>ps.flatMap fun p=>gI p.2.2
 | .aR _ _ ps=>ps.flatMap fun p=>gI p.2
 | .call _ xs | .gw _ xs | .ik _ xs | .pH _ xs=>xs.flatMap gI
 | .oI x lo hi | .sl x lo hi=>gI x++y7 lo++y7 hi
 | .dyn x xs=>gI x++xs.flatMap gI
def Kp.xs:Kp->List X
 | .mv x | .bo x | .bQ _ x | .jf _ x | .jg _ x | .not x | .conv _ x | .len x | .pE x | .ld x | .dj _ x | .fA _ x | .pj _ x | .pk _ _ x | .ext _ x | .bH x | .box _ x | .fv _ x | .kP _ x | .jh _ x | .nX x | .nI x | .pK _ x | .eL x | .fZ x=>[x]
 | .cw _=>[]
 | .gi=>[]
 | .lr j=>[.v j]
 | .eB _ _ b s=>[.t b,.t s]
 | .pick a b c | .lp _ a b c=>[a,b,c]
 | .bin _ x y | .shr x y | .mm _ x y | .oY _ x y | .az _ x y | .pv x y | .eqs _ _ x y | .ak _ _ x y | .st x y | .bE _ x y | .iD _ x y | .jZ x y | .app _ _ x y | .nZ _ _ _ x y=>[x,y]
 | .gS _ ps=>ps.map (·.2.2)
 | .aR _ _ ps=>ps.map (·.2)
 | .call _ xs | .gw _ xs | .ik _ xs | .pH _ xs=>xs
 | .oI x lo hi | .sl x lo hi=>x::lo.toList++hi.toList
 | .dyn x xs=>x::xs
def Kp.dw:Kp->Option Nat
 | .bQ j _ | .jf j _ | .jg j _=>some j
 | _=>none
def ru(pre:List Nat)(s:bd):Bool :=
 (match s.k.dw with | some j=>!pre.contains j | none=>true)&&s.k.xs.all (fun x=>match x with | .v j=>!pre.contains j | _=>true)
def Kp.fN:Kp->Bool
 | .bQ _ _ | .jf _ _ | .jg _ _ | .st _ _ | .bE _ _ _ | .iD _ _ _ | .app _ _ _ _ | .ik _ _ | .dyn _ _ | .bo _ | .jZ _ _ | .kP _ _ | .jh _ _ | .eB _ _ _ _ | .lp _ _ _ _ | .lr _=>true
 | _=>false
def Kp.kZ:Kp->Bool
 | .eB _ _ _ _=>true
 | _=>false
def bd.xC(s:bd):Bool:=s.g.isNone&&match s.k with | .mv (.v _)=>true | _=>false
def fG(o:Oper)(s:bd):Option Nat:=match s.k.dw with
 | some _=>none
 | none=>o.dst
def bP:List Oper->List bd->List (Option Nat)
 | o::l,s::r=>fG o s::bP l r
 | _,_=>[]
def j9(P:Program)(nt:Nat)(ds:List (Option Nat))(tr:List Nat):Nat->List Oper->List bd->Bool
 | _,[],[]=>true
 | n,o::l,s::r=>(match o.dst with | some d=>decide (d<nt) | none=>true) &&
   (match s.k.dw with | some j=>decide (o.dst=tr[j]?)&&decide (j<tr.length)&&s.g.isNone | none=>true) &&
   (match o.guard,s.g with
    | none,none=>true
    | some (j,want),some (i,want')=>j == i&&want == want'&&decide (i<n)&&(match ds[i]? with | some (some _)=>true | _=>false)
    | _,_=>false)&&aY P ds tr o s.k&&s.k.reads.all (fun i=>decide (i<n))&&j9 P nt ds tr (n+1) l r
 | _,_,_=>false
def ri:List (Option Nat)->Bool
 | []=>true
 | none::r=>ri r
 | some d::r=>!(r.contains (some d))&&ri r
def uj:List Nat->Bool
 | []=>true
 | d::r=>!(r.contains d)&&uj r
def qw(tr pre:List Nat):List (Option Nat)->Bool
 | []=>true
 | none::r=>qw tr pre r
 | some d::r=>(tr.zipIdx.all fun p=>!(p.1 == d) || pre.contains p.2)&&qw tr pre r
def uM(ds:List (Option Nat))(tr pre:List Nat):List (Nat×Nat)->Bool
 | []=>true
 | (j,i)::r=>pre.contains j&&(match tr[j]?,ds[i]? with | some t,some (some d)=>t == d | _,_=>false)&&!((r.map (·.1)).contains j)&&uM ds tr pre r
def wv(cl:List Nat)(sl:List bd)(e b:Nat):Bool :=
 sl.zipIdx.all fun q=>decide (q.2=e) || !q.1.k.kZ&&!q.1.k.reads.contains b&&(match q.1.g with | some (i,_)=>i != b | none=>true)&&(decide (q.2<=e) || fB cl q.2 e || q.1.xC)
def s7(k:Nat)(cl:List Nat)(sl:List bd):Bool :=
 sl.zipIdx.all fun p=>(p.1.k.reads.all fun i=>fB cl p.2 i)&&(match p.1.g with | some (i,_)=>fB cl p.2 i | none=>true) &&
  (match p.1.k with
   | .eB _ _ b _=>wv cl sl p.2 b
   | kk=>!kk.fN || ((List.range p.2).all fun i=>decide (i<k) || fB cl p.2 i)&&((List.range sl.length).all fun i=>decide (i<=p.2) || fB cl i p.2))
def iN(ops:List Oper):Bool:=ops.zipIdx.all fun p=>p.1.after.toList.all fun e=>!Region.binds .any e || decide (e.on<p.2)
def Cl(vs ds:List Nat):Operand->Bool
 | .tmp t=>vs.contains t || !ds.contains t
 | _=>false
def W9(tr vs ds:List Nat)(o:Oper):Bool :=
 o.guard.isNone&&(match o.dst with | some d=>!tr.contains d | none=>false)&&(match o.op with | .move x=>Cl vs ds x | .nilCheck x=>Cl vs ds x | .fieldAddr _ x _=>Cl vs ds x | _=>false)
def Ck(tr ds:List Nat):Nat->List Nat->List Nat->List Oper->List Nat
 | _,_,_,[]=>[]
 | i,vs,is,o::r=>if(W9 tr vs ds o&&o.after.toList.all fun e=>!Region.binds .any e || is.contains e.on)=true then i::Ck tr ds (i+1) (o.dst.toList++vs) (i::is) r else Ck tr ds (i+1) vs is r
def DV:List Oper->List Nat
 | []=>[]
 | o::r=>o.dst.toList++DV r
def xw(tr:List Nat)(ops:Array Oper):List Nat:=Ck tr (DV ops.toList) 0 [] [] ops.toList
def xu(tr:List Nat)(ops:Array Oper):List Nat:=xw tr ops++(List.range ops.size).filter fun i=>!(xw tr ops).contains i
def posOf:List Nat->Nat->Nat
 | [],_=>0
 | i::r,j=>if i=j then 0 else posOf r j+1
def fS(ρ:Nat->Nat)(o:Oper):Oper:={ o with after:=o.after.map fun e=>{ e with on:=ρ e.on },guard:=o.guard.map fun g=>(ρ g.1,g.2) }
def fQ(l:List Nat)(ops:Array Oper):Array Oper:=(l.map fun i=>fS (posOf l) (ops.getD i default)).toArray
def oo(l:List Nat)(n:Nat):Bool:=decide (l.length=n)&&((List.range n).all fun j=>decide (posOf l j<n)&&decide (l.getD (posOf l j) n=j))&&(List.range n).all fun i=>decide (l.getD i n<n)&&decide (posOf l (l.getD i n)=i)
def kX(n:Nat)(ops:List Oper):Bool:=ops.all fun o=>match o.guard with | some (j,_)=>decide (j<n) | none=>true
def bd.nT(s:bd):Bool:=s.g.isNone&&match s.k with | .mv _ | .bH _ | .fA _ _=>true | _=>false
def re(draw:Bool)(ops:Array Oper)(l:List bd):Bool:=draw&&!s7 0 (ek [] ops.toList) l
def fx(tr:List Nat)(draw:Bool)(ops:Array Oper)(l:List bd):Array Oper:=if re draw ops l=true then fQ (xu tr ops) ops else ops
def yU(n i:Nat):Array Bool:=((List.range n).map fun j=>decide (j<i)).toArray
def GO(e:Array Oper)(k:Nat)(l:List bd):Bool:=(l.take k).all bd.nT&&Region.noSelect e&&(List.range k).all fun i=>Region.free .any e (yU e.size i) i
def kH(tr:List Nat)(draw:Bool)(ops:Array Oper)(l:List bd):Nat:=if re draw ops l=true then(xw tr ops).length else 0
def jt(P:Program)(nt:Nat)(tr:List Nat)(ops:Array Oper)(draw:Bool)(pre:List Nat)(l:List bd)(post:List (Nat×Nat)):Bool :=
 let e:=fx tr draw ops l;let ds:=bP e.toList l
 decide (e.size=l.length)&&j9 P nt ds tr 0 e.toList l&&ri ds&&qw tr pre ds&&uM ds tr pre post&&pre.all (fun j=>decide (j<tr.length))&&l.all (ru pre) &&
  (!draw || (P.follows .mixedOrders&&iN e.toList&&s7 (kH tr draw ops l) (ek [] e.toList) l)) &&
  (!re draw ops l || (oo (xu tr ops) ops.size&&kX ops.size ops.toList&&iN ops.toList&&GO e (kH tr draw ops l) l&&decide (kH tr draw ops l<=l.length)))
def pg(ops:Array Oper):Bool:=ops.toList.all fun o=>o.after.toList.all fun e=>!Region.binds .any e || decide (e.on<ops.size)
def eY(i j:Nat)(ops:Array Oper):Array Oper:=ops.modify j fun o=>{ o with after:=o.after.push ⟨i,.data⟩ }
def qS(P:Program)(nt:Nat)(tr pre:List Nat):RT->Array Oper->Bool
 | .leaf l post,ops=>jt P nt tr ops true pre l post
 | .two i j pm a b,ops=>decide (i≠j)&&decide (i<ops.size)&&decide (j<ops.size)&&pg ops&&kX ops.size ops.toList&&oo pm ops.size&&qS P nt tr pre a (eY i j ops)&&qS P nt tr pre b (fQ pm (eY j i ops))
def cE(P:Program)(nt:Nat)(tr:List Nat):Code->C->Bool
 | .skip,.skip=>true
 | .region _ ops draw,.ops pre l post=>jt P nt tr ops draw pre l post
 | .region _ ops draw,.alt pre t=>draw&&iN ops.toList&&qS P nt tr pre t ops
 | .seq (.region _ ops draw) (.cond x a b),.dp pre l post y c d=>jt P nt tr ops draw pre l post&&aJ (bP (fx tr draw ops l).toList l) tr x y&&cE P nt tr a c&&cE P nt tr b d
 | .seq (.region _ ops draw) (.seq (.cond x a b) r),.uD pre l post y c d e=>jt P nt tr ops draw pre l post&&aJ (bP (fx tr draw ops l).toList l) tr x y&&cE P nt tr a c&&cE P nt tr b d&&cE P nt tr r e
 | .seq a b,.seq c d=>cE P nt tr a c&&cE P nt tr b d
 | .cond x a b,.cond y c d=>aJ [] tr x y&&cE P nt tr a c&&cE P nt tr b d
 | .block i a,.block j c=>i == j&&cE P nt tr a c
 | .loop a,.loop c=>cE P nt tr a c
 | .exit i,.exit j=>i == j
 | .ret,.ret=>true
 | _,_=>false
def kx(nt:Nat)(tr:List Nat):Bool:=uj tr&&tr.all (fun t=>decide (t<nt))&&decide (tr.length<500)
end Go.D3
namespace Go.D3
open Go
theorem Ea:∀{l r:List UInt8},c6 l r=true->l=r
 | [],[],_=>rfl
 | [],_::_,h=>by simp[c6] at h
 | _::_,[],h=>by simp[c6] at h
 | a::l,b::r,h=>by
  simp[c6] at h;rw[h.1,Ea h.2]
theorem wX(s:ByteArray):s=⟨s.data.toList.toArray⟩:=by cases s;simp
section
variable{P:Program}{o:Oper}{w:World}{A:Nat->Prop}{ct:Nat->D}{vl:Nat->Value}{a:Act}{v:Value}
theorem ey{k:IntKind}{n:Int}(h:Pl w A (aj w ct vl) v (.int k n)):v=.int k n/\k.has n:=by
 cases h with
 | rd h=>cases h with | int h=>exact⟨rfl,h⟩
 | ref h=>exact h.elim
theorem pl_bool{b:Bool}(h:Pl w A (aj w ct vl) v (.bool b)):v=.bool b:=by
 cases h with
 | rd h=>cases h;rfl
 | ref h=>exact h.elim
theorem gG{l:List UInt8}(h:Pl w A (aj w ct vl) v (.str l)):v=.string ⟨l.toArray⟩/\l.length<=maxLen:=by
 cases h with
 | rd h=>cases h with | str h=>exact⟨rfl,h⟩
 | ref h=>exact h.elim
theorem lA{l:List D}(h:Pl w A (aj w ct vl) v (.agg l)):∃cs:Array Value,v=.agg cs/\cs.size=l.length/\∀j x,l[j]?=some x->Pl w A (aj w ct vl) (cs.getD j undef) x:=by
 cases h with
 | rd h=>cases h with | agg hs hr=>exact⟨_,rfl,hs,fun j x hx=>.rd (hr j x hx)⟩
 | ref h=>exact h.elim
 | agg hs hr=>exact⟨_,rfl,hs,hr⟩
theorem Tl{l:List D}(h:Pl w A (aj w ct vl) v (.au l)):∃cs:Array Value,v=.tuple cs/\cs.size=l.length/\∀j x,l[j]?=some x->Pl w A (aj w ct vl) (cs.getD j undef) x:=by
 cases h with
 | rd h=>cases h with | au hs hr=>exact⟨_,rfl,hs,fun j x hx=>.rd (hr j x hx)⟩
 | ref h=>exact h.elim
 | au hs hr=>exact⟨_,rfl,hs,hr⟩
theorem pQ{l:List D}(h:Pl w A (aj w ct vl) v (.ptr l)):∃b off,v=.pointer (some ⟨b,off,none⟩)/\A b/\∀j x,l[j]?=some x->∃u,w.cell? ⟨b,off+j,none⟩=some u/\Rd w A u x:=by
 cases h with
 | rd h=>cases h with | ptr hA vs hc hr=>exact⟨_,_,rfl,hA,fun j x hx=>⟨vs j,hc j x hx,hr j x hx⟩⟩
 | ref h=>exact h.elim
theorem b6{d:D}(h:Pl w A (aj w ct vl) v d)(hd:∀k p,d≠.sub k p)(ha:∀k p,d≠.aw k p)(hf:∀f c,d≠.fn f c)(hg:∀l,d≠.agg l)(ht:∀l,d≠.au l)(hp:∀k p n,d≠.pre k p n:=by simp):Rd w A v d:=by
 cases h with
 | rd h=>exact h
 | @ref v d h=>cases d<;>first | exact h.elim | exact absurd rfl (hd _ _) | exact absurd rfl (ha _ _) | exact absurd rfl (hf _ _) | exact absurd rfl (hp _ _ _)
 | agg=>exact absurd rfl (hg _)
 | au=>exact absurd rfl (ht _)
 | fn=>exact absurd rfl (hf _ _)
theorem oq{z:D}{L:List D}(h:Pl w A (aj w ct vl) v (.slice z L)):Rd w A v (.slice z L) :=
 b6 h (by simp) (by simp) (by simp) (by simp) (by simp)
theorem dW{k:Nat}{p:Path}(h:Pl w A (aj w ct vl) v (.sub k p)):aj w ct vl v (.sub k p):=by
 cases h with
 | rd h=>cases h
 | ref h=>exact h
theorem fR{k:Nat}{p:Path}(h:Pl w A (aj w ct vl) v (.aw k p)):kM w ct vl v k p:=by
 cases h with
 | rd h=>cases h
 | ref h=>exact h
theorem mJ{f:FuncId}{caps:List D}(h:Pl w A (aj w ct vl) v (.fn f caps)):∃cs:Array Value,v=.func (.func f) #[] cs/\cs.size=caps.length/\∀j x,caps[j]?=some x->Pl w A (aj w ct vl) (cs.getD j undef) x:=by
 cases h with
 | rd h=>cases h with | fn hs hr=>exact⟨_,rfl,hs,fun j x hx=>.rd (hr j x hx)⟩
 | ref h=>exact h.elim
 | fn hs hr=>exact⟨_,rfl,hs,hr⟩
theorem y5{z:D}{L:List D}(h:Rd w A v (.slice z L)):∃p cap,v=.slice p L.length cap/\L.length<=cap/\cap<=maxLen /\
  (L≠[]->∃b off,p=some ⟨b,off,none⟩/\A b/\0<z.cells.length/\(∀x∈L,x.cells.length=z.cells.length)/\∀j x,cellAt L z.cells.length j=some x->∃u,w.cell? ⟨b,off+j,none⟩=some u/\Rd w A u x):=by
 cases h with
 | nil=>exact⟨none,0,rfl,Nat.le_refl _,Nat.zero_le _,fun h=>absurd rfl h⟩
 | empty hm=>exact⟨_,_,rfl,Nat.zero_le _,hm,fun h=>absurd rfl h⟩
 | slice hA hc hm hz hzz hsz vs hcells hr =>
  subst hzz;exact⟨_,_,rfl,hc,hm,fun _=>⟨_,_,rfl,hA,hz,hsz,fun j x hx=>⟨vs j,hcells j x hx,hr j x hx⟩⟩⟩
theorem uG{z:D}{L:List D}{F:Nat->Prop}(h:an w A v (.slice z L) F):∃p cap,v=.slice p L.length cap/\L.length<=cap/\cap<=maxLen/\(L≠[]->∃b off,p=some ⟨b,off,none⟩):=by
 cases h with
 | nil=>exact⟨none,0,rfl,Nat.le_refl _,Nat.zero_le _,fun h=>absurd rfl h⟩
 | slice Fs hb hroom hc hm hz hzz hsz hr hF hfs hdis=>exact⟨_,_,rfl,hc,hm,fun _=>⟨_,_,rfl⟩⟩
theorem nj{w:World}{A:Nat->Prop}{x:D}(h:Pl w A (aj w ct vl) v x){l:List D}(hl:x.cellsOf=some l):v.cells.size=l.length/\∀j c,l[j]?=some c->Pl w A (aj w ct vl) (v.cells.getD j undef) c:=by
 have one:(v.cells=#[v])->l=[x]->v.cells.size=l.length/\∀j c,l[j]?=some c->Pl w A (aj w ct vl) (v.cells.getD j undef) c:=by
  rintro h1 rfl;refine⟨by simp[h1],fun j c hc=>?_⟩;cases j with
  | zero=>simp at hc;subst hc;simpa[h1] using h
  | succ j=>simp at hc
 have rdc:∀{v:Value}{d:D},Rd w A v d->(∀l,d≠.agg l)->d≠.dead->(∀y,d≠.o y)->(∀y,d≠.vw y)->v.cells=#[v]:=by
  intro v d h h1 h2 h3 h4;cases h<;>first | rfl | exact absurd rfl (h1 _) | exact absurd rfl h2 | exact absurd rfl (h3 _) | exact absurd rfl (h4 _)
 cases x<;>simp only[D.cellsOf,Option.some.injEq,reduceCtorEq] at hl
 case agg l' =>
  subst hl;obtain⟨cs,rfl,h1,h2⟩:=lA h;exact⟨h1,h2⟩
 case pre k p n =>
  refine one ?_ hl.symm;cases h with
  | rd h=>cases h
  | ref h=>obtain⟨q,m,c,_,_,rfl⟩:=h;rfl
 all_goals
  refine one ?_ hl.symm
 case sub k p=>obtain⟨_,_,⟨q,n,c,rfl⟩ | ⟨r,rfl⟩⟩:=dW h<;>rfl
 case aw k p=>obtain⟨_,_,_,rfl⟩:=fR h;rfl
 case fn f caps=>obtain⟨cs,rfl,_⟩:=mJ h;rfl
 all_goals exact rdc (b6 h (by simp) (by simp) (by simp) (by simp) (by simp)) (by simp) (by simp) (by simp) (by simp)
end
end Go.D3
namespace Go.D3
open Go
theorem Ko:∀(xs l:List D)(off:Nat),(setCells l off xs).length=l.length
 | [],_,_=>rfl
 | x::r,l,off=>by simp[setCells,Ko r]
theorem zQ:∀(xs l:List D)(off j:Nat),off+xs.length<=l.length->(setCells l off xs)[j]?=if off<=j/\j<off+xs.length then xs[j-off]? else l[j]?
 | [],l,off,j,_=>by simp[setCells];intro h1 h2;omega
 | x::r,l,off,j,h=>by
  simp only[List.length_cons] at h;rw[setCells,zQ r _ _ _ (by simp;omega)];simp only[List.length_cons];by_cases h1:off+1<=j/\j<off+1+r.length
  ·rw[if_pos h1,if_pos (by omega)]
   obtain⟨k,rfl⟩:∃k,j=off+1+k:=⟨j-(off+1),by omega⟩;simp[show off+1+k-off=k+1 by omega]
  ·rw[if_neg h1]
   by_cases h2:j=off
   ·subst h2
    rw[if_pos (by omega)];simp[show j<l.length by omega]
   ·rw[if_neg (by omega),List.getElem?_set_ne (by omega)]
def eT(cs:Array Value)(off:Nat):List Value->Array Value
 | []=>cs
 | v::r=>eT (cs.setIfInBounds off v) (off+1) r
theorem tt:∀(l:List Value)(k off:Nat)(cs:Array Value),(l.zipIdx k).foldl (fun cs (p:Value×Nat)=>cs.setIfInBounds (off+p.2) p.1) cs=eT cs (off+k) l
 | [],_,_,_=>rfl
 | v::r,k,off,cs=>by
  simp only[List.zipIdx_cons,List.foldl_cons,eT];rw[tt r (k+1) off];congr 1
theorem p7:∀(l:List Value)(off:Nat)(cs:Array Value),(eT cs off l).size=cs.size
 | [],_,_=>rfl
 | v::r,off,cs=>by rw[eT,p7 r];simp
theorem p6:∀(l:List Value)(off:Nat)(cs:Array Value)(j:Nat),off+l.length<=cs.size->(eT cs off l).getD j undef=if off<=j/\j<off+l.length then l.getD (j-off) undef else cs.getD j undef
 | [],off,cs,j,_=>by simp[eT];intro h1 h2;omega
 | v::r,off,cs,j,h=>by
  simp only[List.length_cons] at h;rw[eT,p6 r _ _ _ (by simp;omega)];simp only[List.length_cons];by_cases h1:off+1<=j/\j<off+1+r.length
  ·rw[if_pos h1,if_pos (by omega)]
   obtain⟨k,rfl⟩:∃k,j=off+1+k:=⟨j-(off+1),by omega⟩;simp[show off+1+k-off=k+1 by omega]
  ·rw[if_neg h1]
   by_cases h2:j=off
   ·subst h2
    rw[if_pos (by omega)];simp[show j<cs.size by omega]
   ·rw[if_neg (by omega)]
    simp[Array.getElem?_setIfInBounds_ne (show off≠j by omega)]
section
variable{P:Program}{o:Oper}{w:World}{A:Nat->Prop}{ct:Nat->D}{vl:Nat->Value}{a:Act}{ds:List (Option Nat)}{tr:List Nat}{rd:X->D}
theorem VU{R:Value->D->Prop}{cs vs:Array Value}{l xs:List D}{off:Nat}(hs:cs.size=l.length)(hr:∀j c,l[j]?=some c->R (cs.getD j undef) c)
  (hs':vs.size=xs.length) (hr':∀j c,xs[j]?=some c->R (vs.getD j undef) c) (h:off+xs.length<=l.length) :
  (eT cs off vs.toList).size=(setCells l off xs).length/\∀j c,(setCells l off xs)[j]?=some c->R ((eT cs off vs.toList).getD j undef) c:=by
 refine⟨by rw[p7,Ko,hs],fun j c hc=>?_⟩;rw[zQ _ _ _ _ h] at hc;rw[p6 _ _ _ _ (by simp;omega)];simp only[Array.length_toList,hs'];split at hc
 ·rename_i h1
  rw[if_pos h1];have:=hr' _ _ hc;simpa using this
 ·rename_i h1
  rw[if_neg h1];exact hr _ _ hc
theorem La{v:Value}{d:D}{F:Nat->Prop}(h:iJ v d=true):an w A v d F/\d.isAgg=false:=by
 unfold iJ at h;split at h
 ·simp at h
  obtain⟨⟨h1,h2⟩,h3⟩:=h;subst h1;subst h2;exact⟨.int (ku h3),rfl⟩
 ·simp at h;subst h;exact⟨.bool,rfl⟩
 ·rename_i s
  have:s.data.toList=[]:=by simpa using h
  rw[wX s,this];exact⟨.str (by simp),rfl⟩
 ·exact⟨.dead,rfl⟩
 ·exact⟨.nil,rfl⟩
 ·exact⟨.bp,rfl⟩
 ·exact⟨.bO,rfl⟩
 ·exact⟨.bj,rfl⟩
 ·cases h
theorem Cr{v:Value}{d:D}(h:iJ v d=true):Rd w A v d :=
 ((La (w:=w) (A:=A) (F:=fun _=>False) h).1).rd (fun _ h=>h) (fun _ h=>h.elim)
theorem Lc{v:Value}{d:D}(h:iJ v (lH d)=true):Rd w A v d:=by
 cases d with
 | aB z =>
  simp only[lH] at h;unfold iJ at h;split at h<;>first | exact .aB | cases h | (rename_i hh _;cases hh) | skip
  all_goals first | exact .aB | contradiction
 | _=>exact Cr h
theorem XP{R:Value->D->Prop}{v:Value}{d:D}{F:Nat->Prop}(h:iJ v (lH d)=true):b7 w A R v F d:=by
 have hr:=Lc (w:=w) (A:=A) h;cases d<;>first | exact Pl.rd hr | (simp only[lH] at h;unfold iJ at h;split at h<;>first | contradiction | cases h)
theorem Lb:∀{vs:List Value}{zs:List D},ql vs zs=true->vs.length=zs.length/\∀j z,zs[j]?=some z->iJ (vs.getD j undef) z=true
 | [],[],_=>⟨rfl,by simp⟩
 | [],_::_,h=>by simp[ql] at h
 | _::_,[],h=>by simp[ql] at h
 | v::vs,d::zs,h=>by
  simp[ql] at h;obtain⟨h1,h2⟩:=Lb h.2;refine⟨by simp[h1],fun j z hz=>?_⟩;cases j with
  | zero=>simp at hz;subst hz;simpa using h.1
  | succ j=>simpa using h2 j z (by simpa using hz)
theorem sx{t:TypeId}{zs:List D}(h:nk P t zs=true):∃i z,P.info? t=some i/\i.zero=some z/\i.size=zs.length/\z.cells.size=zs.length/\∀j d,zs[j]?=some d->iJ (z.cells.getD j undef) d=true:=by
 unfold nk at h;cases hi:P.info? t with
 | none=>simp[hi] at h
 | some i =>
  cases hz:i.zero with
  | none=>simp[hi,hz] at h
  | some z =>
   simp[hi,hz] at h;obtain⟨h1,h2⟩:=Lb h.1;exact⟨i,z,rfl,hz,h.2,by simpa using h1,fun j d hd=>by simpa using h2 j d hd⟩
theorem MO{t f:Nat}{off:Nat}{ft:TypeId}(h:im P t f=some (off,ft)):∃fs fl,P.underlying t=some (.struct fs)/\fs[f]?=some fl/\fl.offset=off/\fl.type=ft:=by
 unfold im at h;cases hu:P.underlying t with
 | none=>simp[hu] at h
 | some d =>
  cases d<;>simp[hu] at h;obtain⟨fl,hfl,h1,h2⟩:=h;exact⟨_,fl,rfl,hfl,h1,h2⟩
theorem EW{t:TypeId}{fs:Array Field}(hu:P.underlying t=some (.struct fs)):∀{ps:List (Nat×Operand)}{parts:List (Nat×Nat×X)},nS P ds tr t ps parts=true ->
  ∀(places:Nat->Option (Nat×Nat)),(∀(i:Nat) fl n,fs[i]?=some fl->dB P fl.type n=true->places i=some (fl.offset,n)) ->
  ps.length=parts.length/\∀(j i:Nat) x off n y,ps[j]?=some (i,x)->parts[j]?=some (off,n,y)->places i=some (off,n)/\aJ ds tr x y=true
 | [],[],_,_,_=>⟨rfl,by simp⟩
 | [],_::_,h,_,_=>by simp[nS] at h
 | _::_,[],h,_,_=>by simp[nS] at h
 | (i,x)::ps,(off,n,y)::parts,h,places,hp=>by
  simp only[nS,Bool.and_eq_true] at h;obtain⟨⟨h1,h2⟩,h3⟩:=h;obtain⟨h4,h5⟩:=EW hu h3 places hp;refine⟨by simp[h4],fun j=>?_⟩;cases j with
  | zero =>
   rintro i' x' off' n' y' he he';simp at he he';obtain⟨rfl,rfl⟩:=he;obtain⟨rfl,rfl,rfl⟩:=he';cases hf:im P t i with
   | none=>simp[hf] at h1
   | some q =>
    obtain⟨o',ft⟩:=q;simp[hf] at h1;obtain⟨fs',fl,hu',hfl,h6,h7⟩:=MO hf;rw[hu] at hu';injection hu' with hu';injection hu' with hu';subst hu'
    refine⟨?_,h2⟩;rw[<-h1.1,<-h6];exact hp i fl n hfl (by rw[h7];exact h1.2)
  | succ j=>intro i' x' off' n' y' he he';exact h5 j i' x' off' n' y' (by simpa using he) (by simpa using he')
theorem Eo(places:Nat->Option (Nat×Nat)):∀(ps:List (Nat×Operand))(parts:List (Nat×Nat×X))(cs:Array Value)(l:List D)(g:Bool)(l':List D),ps.length=parts.length ->
  (∀(j i:Nat) x off n y,ps[j]?=some (i,x)->parts[j]?=some (off,n,y)->places i=some (off,n)/\aJ ds tr x y=true) ->
  (∀y,y∈parts.map (·.2.2)->∀x,aJ ds tr x y=true->ch w A (aj w ct vl) (a.eval x) (rd y)) ->
  cs.size=l.length->(∀j c,l[j]?=some c->Pl w A (aj w ct vl) (cs.getD j undef) c)->lZ rd l parts=some (g,l')->g=true ->
  ∃cs',Instr.fill places cs (ps.map fun(i,x)=>(i,a.eval x))=some cs'/\cs'.size=l'.length/\∀j c,l'[j]?=some c->Pl w A (aj w ct vl) (cs'.getD j undef) c
 | [],[],cs,l,g,l',_,_,_,h1,h2,hf,_=>by
  simp[lZ] at hf;obtain⟨_,rfl⟩:=hf;exact⟨cs,rfl,h1,h2⟩
 | [],_::_,_,_,_,_,h,_,_,_,_,_,_=>by simp at h
 | _::_,[],_,_,_,_,h,_,_,_,_,_,_=>by simp at h
 | (i,x)::ps,(off,n,y)::parts,cs,l,g,l',hl,hp,hr,h1,h2,hf,hg=>by
  simp only[lZ] at hf;obtain⟨hpl,hx⟩:=hp 0 i x off n y rfl rfl;cases hc:((rd y).core).cellsOf with
  | none=>simp[hc] at hf
  | some xs =>
   simp only[hc,Option.bind_some] at hf;split at hf
   ·rename_i hlen
    rw[Option.bind_eq_some_iff] at hf;obtain⟨⟨g',l''⟩,hf,he⟩:=hf;injection he with he
    injection he with he1 he2
    subst he2;rw[hg] at he1;simp at he1;have hv:=(hr y (by simp) x hx).1 he1.1;obtain⟨h3,h4⟩:=nj hv hc;obtain⟨h5,h6⟩:=VU (R:=Pl w A (aj w ct vl)) (off:=off) h1 h2 h3 h4 (by omega)
    obtain⟨cs',h7,h8⟩:=Eo places ps parts _ _ g' l'' (by simpa using hl) (fun j i x off n y hj hj'=>hp (j+1) i x off n y (by simpa using hj) (by simpa using hj'))
     (fun y hy=>hr y (by simp only[List.map_cons,List.mem_cons];exact .inr hy)) h5 h6 hf he1.2
    refine⟨cs',?_,h8⟩;simp only[List.map_cons,Instr.fill,hpl];have hcond:¬((decide ((a.eval x).cells.size≠n) || decide (off+(a.eval x).cells.size > cs.size))=true):=by simp;omega
    rw[if_neg hcond];have:=tt (a.eval x).cells.toList 0 off cs;simp only[Nat.add_zero] at this;rw[<-Array.foldl_toList,Array.toList_zipIdx,this];exact h7
   ·cases hf
theorem Xw{t:TypeId}{ps:Array (Nat×Operand)}(ho:o.op=.build t ps){zs:List D}{parts:List (Nat×Nat×X)}(hz:nk P t (zs.map lH)=true)(hp:nS P ds tr t ps.toList parts=true)
  (aO:∃fs,P.underlying t=some (.struct fs)/\∀f∈fs.toList,(P.info? f.type).isSome=true)
  (hr:∀y,y∈parts.map (·.2.2)->∀x,aJ ds tr x y=true->ch w A (aj w ct vl) (a.eval x) (rd y)) {g:Bool} {l:List D} (hf:lZ rd zs parts=some (g,l)) (hg:g=true) :
  ∃v,Yd P o a w v/\Pl w A (aj w ct vl) v (.agg l):=by
 obtain⟨fs,hu,hfs⟩:=aO;obtain⟨i,z,hi,hiz,hsz,hzs,hzc⟩:=sx hz
 have hpl:fs.toList.mapM (fun f=>(P.info? f.type).map fun i=>(f.offset,i.size))=some (fs.toList.map fun f=>(f.offset,((P.info? f.type).map (·.size)).getD 0)):=by
  generalize fs.toList=l at hfs;induction l with
  | nil=>rfl
  | cons f r ih =>
   have h1:=hfs f (by simp);cases hq:P.info? f.type with
   | none=>simp[hq] at h1
   | some q=>simp[List.mapM_cons,hq,ih fun f hf=>hfs f (by simp[hf])]
 obtain⟨h1,h2⟩:=EW hu hp (fun i=>(fs.toList.map fun f=>(f.offset,((P.info? f.type).map (·.size)).getD 0)).toArray[i]?) (fun i fl n hfl hn=>by
  have:fs.toList[i]?=some fl:=by simpa using hfl
  simp only[List.getElem?_toArray,List.getElem?_map,this,Option.map_some];unfold dB at hn;cases hq:P.info? fl.type with
  | none=>simp[hq] at hn
  | some q=>simp[hq] at hn;simp[hn])
 obtain⟨cs',h3,h4,h5⟩:=Eo (w:=w) (A:=A) (ct:=ct) (vl:=vl) (a:=a) _ ps.toList parts z.cells zs g l h1 h2 hr (by simpa using hzs) (fun j c hc=>.rd (Lc (hzc j (lH c) (by rw[List.getElem?_map,hc];rfl)))) hf hg
 have hb:P.built t ((ps.map fun(i,x)=>(i,a.eval x)).toList)=some cs':=by
  simp only[Program.built,hi,hu,hiz,hpl];rw[Array.toList_map];exact h3
 exact⟨.agg cs',by simp only[Yd,execOp,ho];simp[run_build w t _ cs' hb],.agg h4 h5⟩
theorem Ef{xs ys:Array Value}:∀(fs:List Field)(ks:List Nat)(i d:Nat)(l r:List D)(b:Bool),eqFields P i fs ks=true ->
  (∀(j:Nat) c,l[j]?=some c->i+j<xs.size/\Pl w A (aj w ct vl) (xs.getD (i+j) undef) c)->(∀(j:Nat) c,r[j]?=some c->i+j<ys.size/\Pl w A (aj w ct vl) (ys.getD (i+j) undef) c)->gU ks l r=some b ->
  (Op.eqFields (d+1) xs ys fs).run P w=.ok b w
 | [],[],_,_,l,r,b,_,_,_,h=>by
  cases l<;>cases r<;>simp[gU] at h;subst h;simp[Op.eqFields]
 | [],_::_,_,_,_,_,_,h,_,_,_=>by simp[eqFields] at h
 | _::_,[],_,_,_,_,_,h,_,_,_=>by simp[eqFields] at h
 | f::fs,k::ks,i,d,l,r,b,hf,h1,h2,h=>by
  simp only[eqFields,Bool.and_eq_true,decide_eq_true_eq] at hf;obtain⟨⟨⟨hn,hoff⟩,hpe⟩,hf⟩:=hf;have hn':f.name≠ "_":=by simpa using hn
  have hc:ji P f.type=true:=by
   unfold ml at hpe;unfold ji;split at hpe<;>simp_all
  have key:∃x l' y r' b1 b2,l=x::l'/\r=y::r'/\b=(b1&&b2)/\gU ks l' r'=some b2 /\
    ((Pl w A (aj w ct vl) (xs.getD i undef) x->Pl w A (aj w ct vl) (ys.getD i undef) y->(Op.equalIn (d+1) f.type (xs.getD i undef) (ys.getD i undef)).run P w=.ok b1 w)):=by
   unfold ml at hpe;unfold gU at h;split at h
   ·simp_all
   ·split at h
    ·rename_i hk
     subst hk;rw[Option.bind_eq_some_iff] at h;obtain⟨b2,hb2,h⟩:=h;injection h with h;subst h
     rename_i heq;injection heq with hk0 hks
     subst hks;refine⟨_,_,_,_,_,b2,rfl,rfl,rfl,hb2,fun hx hy=>?_⟩;obtain⟨hx,_⟩:=ey hx;obtain⟨hy,_⟩:=ey hy;rw[hx,hy];split at hpe<;>simp_all;exact run_equalIn_int w d f.type _ _ _ _ (by assumption)
    ·cases h
   ·rw[Option.bind_eq_some_iff] at h
    obtain⟨b2,hb2,h⟩:=h;injection h with h;subst h
    rename_i heq;injection heq with hk0 hks
    subst hks;refine⟨_,_,_,_,_,b2,rfl,rfl,rfl,hb2,fun hx hy=>?_⟩;have hx:=pl_bool hx;have hy:=pl_bool hy;rw[hx,hy];split at hpe<;>simp_all;exact run_equalIn_bool' w d f.type _ _ (by assumption)
   ·rw[Option.bind_eq_some_iff] at h
    obtain⟨b2,hb2,h⟩:=h;injection h with h;subst h
    rename_i heq;injection heq with hk0 hks
    subst hks;refine⟨_,_,_,_,_,b2,rfl,rfl,rfl,hb2,fun hx hy=>?_⟩;obtain⟨hx,_⟩:=gG hx;obtain⟨hy,_⟩:=gG hy;rw[hx,hy];split at hpe<;>simp_all;rw[run_equalIn_string w d f.type _ _ (by assumption),ByteArray.toList_eq,ByteArray.toList_eq]
   ·cases h
  obtain⟨x,l',y,r',b1,b2,rfl,rfl,rfl,hrest,hrun⟩:=key;obtain⟨hx1,hx2⟩:=h1 0 _ rfl;obtain⟨hy1,hy2⟩:=h2 0 _ rfl;simp only[Nat.add_zero] at hx1 hx2 hy1 hy2;have hp1:=yN (P:=P) (w:=w) hc (cs:=xs) (off:=i) hx1;have hp2:=yN (P:=P) (w:=w) hc (cs:=ys) (off:=i) hy1;have he:=hrun hx2 hy2;simp only[Op.eqFields,hn',ne_eq,not_false_eq_true,if_true,Sem.run_bind,hoff,hp1,hp2,Result.andThen_ok,he,Sem.run_ite];cases b1
  ·simp
  ·simp only[Bool.not_true,Bool.false_eq_true,if_false,Bool.true_and]
   exact Ef fs ks (i+1) d l' r' b2 hf
    (fun j c hj=>by have:=h1 (j+1) c (by simpa using hj);rwa [show i+(j+1)=i+1+j by omega] at this)
    (fun j c hj=>by have:=h2 (j+1) c (by simpa using hj);rwa [show i+(j+1)=i+1+j by omega] at this) hrest
theorem Xy{neg:Bool}{t u:TypeId}{x y:Operand}(ho:o.op=.binOp (if neg then .neq else .eql) t x y u){fs:Array Field}{ks:List Nat}(hu:P.underlying t=some (.struct fs))(hf:eqFields P 0 fs.toList ks=true)
  (hs:P.stoodInHeld t=false) (hq:P.eqGuardType P.depth t=false) {l r:List D} (hx:Pl w A (aj w ct vl) (a.eval x) (.agg l)) (hy:Pl w A (aj w ct vl) (a.eval y) (.agg r))
  {b:Bool} (hb:gU ks l r=some b):Yd P o a w (.bool (if neg then !b else b)):=by
 obtain⟨xs,hxs,h1,h2⟩:=lA hx;obtain⟨ys,hys,h3,h4⟩:=lA hy;have hfo:P.fieldsOf t=fs:=by simp[Program.fieldsOf,hu]
 have hrun:=Ef (P:=P) (w:=w) (A:=A) (ct:=ct) (vl:=vl) (xs:=xs) (ys:=ys) fs.toList ks 0 9998 l r b hf
  (fun j c hj=>⟨by have:=(List.getElem?_eq_some_iff.1 hj).1;omega,by simpa using h2 j c hj⟩) (fun j c hj=>⟨by have:=(List.getElem?_eq_some_iff.1 hj).1;omega,by simpa using h4 j c hj⟩) hb
 have he:(Op.equalIn 10000 t (.agg xs) (.agg ys)).run P w=.ok b w:=by
  rw[run_equalIn_agg w 9999 t xs ys (by rw[hfo];exact hu) hs,hfo];exact hrun
 cases neg
 ·simp only[Bool.false_eq_true,if_false] at ho|-
  simp[Yd,execOp,ho,hxs,hys,run_eqGuard_agg (P:=P) w .eql t x y xs ys hq,run_eql_struct (P:=P) w t xs ys,he]
 ·simp only[if_true] at ho|-
  simp[Yd,execOp,ho,hxs,hys,run_eqGuard_agg (P:=P) w .neq t x y xs ys hq,run_neq_struct (P:=P) w t xs ys,he]
theorem Dq:∀{xs:List Operand}{ys:List X}{l:List D},eK ds tr xs ys=true->(∀y,y∈ys->∀x,aJ ds tr x y=true->ch w A (aj w ct vl) (a.eval x) (rd y))->lR rd ys=some l ->
  xs.length=l.length/\∀j c,l[j]?=some c->Pl w A (aj w ct vl) ((xs.map a.eval).getD j undef) c
 | [],[],l,_,_,h=>by simp[lR] at h;subst h;simp
 | [],_::_,_,h,_,_=>by simp[eK] at h
 | _::_,[],_,h,_,_=>by simp[eK] at h
 | x::xs,y::ys,l,hx,hr,h=>by
  simp only[eK,Bool.and_eq_true] at hx;simp only[lR,Option.bind_eq_some_iff] at h;obtain⟨d,hd,l',hl',h⟩:=h;injection h with h;subst h
  obtain⟨h1,h2⟩:=Dq hx.2 (fun y hy=>hr y (by simp[hy])) hl';have hv:=hr y (by simp) x hx.1;refine⟨by simp[h1],fun j c hj=>?_⟩;cases j with
  | zero =>
   simp at hj;subst hj;cases hy:rd y<;>rw[hy] at hd hv<;>simp[D.qq] at hd
   all_goals
    subst hd;exact hv.1 rfl
  | succ j=>simpa using h2 j c (by simpa using hj)
theorem XH{f:FuncId}{caps:Array Operand}{first:Array Operand}(ho:o.op=.makeFunc (.func f) first caps)(hfirst:first.isEmpty=true){ys:List X}(hx:eK ds tr caps.toList ys=true)
  (hr:∀y,y∈ys->∀x,aJ ds tr x y=true->ch w A (aj w ct vl) (a.eval x) (rd y)) {l:List D} (hl:lR rd ys=some l):∃v,Yd P o a w v/\Pl w A (aj w ct vl) v (.fn f l):=by
 obtain⟨h1,h2⟩:=Dq hx hr hl;have hf:first=#[]:=by simpa using hfirst
 subst hf;refine⟨.func (.func f) #[] (caps.map a.eval),by simp[Yd,execOp,ho,Instr.makeFunc],.fn (by simpa using h1) fun j c hj=>?_⟩;have:=h2 j c hj;simpa using this
theorem wN{L:List D}{sz l h j:Nat}{x:D}(hz : 0<sz)(hx:cellAt ((L.take h).drop l) sz j=some x):cellAt L sz (l*sz+j)=some x:=by
 unfold cellAt at *;have h1:(l*sz+j) / sz=l+j / sz:=by rw[Nat.mul_comm,Nat.mul_add_div hz]
 have h2:(l*sz+j) % sz=j % sz:=by rw[Nat.mul_comm,Nat.mul_add_mod]
 rw[h1,h2];cases hq:((L.take h).drop l)[j / sz]? with
 | none=>simp[hq] at hx
 | some y =>
  rw[hq] at hx;rw[List.getElem?_drop,List.getElem?_take] at hq;split at hq
  ·rw[hq];exact hx
  ·cases hq
theorem qz{x:Option Operand}{y:Option X}(hx:nU ds tr x y=true)(hr:∀z,y=some z->∀x,aJ ds tr x z=true->ch w A (aj w ct vl) (a.eval x) (rd z)){dflt:Nat}{g:Bool}{m:Int}(h:jW rd dflt y=some (g,m))(hg:g=true) :
  (x.map a.eval=none/\m=dflt)\/∃k,x.map a.eval=some (.int k m):=by
 cases x<;>cases y<;>simp[nU] at hx
 ·simp[jW] at h;exact .inl ⟨rfl,h.2.symm⟩
 ·rename_i z y
  simp only[jW,Option.bind_eq_some_iff] at h;obtain⟨n,hn,h⟩:=h;injection h with h;injection h with h1 h2
  subst h2;have hv:=(hr y rfl z hx).1 (by rw[h1];exact hg);cases hc:(rd y).core<;>rw[hc] at hn hv<;>simp[D.int?] at hn;subst hn;exact .inr ⟨_,congrArg some (ey hv).1⟩
theorem qA(isS:Bool)(len cap:Nat)(hc:len<=cap)(lo hi:Option Value)(l h:Int)(h0 : 0<=l)(h1:l<=h)(h2:h<=len)
  (hlo:(lo=none/\l=0)\/∃k,lo=some (.int k l)) (hhi:(hi=none/\h=len)\/∃k,hi=some (.int k h)):(Instr.sliceBounds isS len cap lo hi none).run P w=.ok (l.toNat,h.toNat,cap) w:=by
 have e1:h<=(cap:Int):=by omega
 have e2 : 0<=h:=by omega
 have e3:(h.toNat:Int)=h:=by omega
 rcases hhi with⟨rfl,rfl⟩ | ⟨k,rfl⟩<;>rcases hlo with⟨rfl,rfl⟩ | ⟨k',rfl⟩<;>simp[Instr.sliceBounds,Instr.sliceBound,asIntOf,h0,h1,e1,e2,e3]
theorem data_extract(s:List UInt8)(l h:Nat):(⟨s.toArray⟩:ByteArray).extract l h=⟨((s.take h).drop l).toArray⟩:=by
 apply ByteArray.ext;rw[ByteArray.data_extract];apply Array.ext';simp[List.drop_take]
theorem XN{t:TypeId}{x:Operand}{lo hi:Option Operand}(ho:o.op=.slice t x lo hi none)(ht:P.underlying t=some .string){s:List UInt8}(hx:a.eval x=.string ⟨s.toArray⟩){l h:Int}(h0 : 0<=l)(h1:l<=h)(h2:h<=s.length)
  (hlo:(lo.map a.eval=none/\l=0)\/∃k,lo.map a.eval=some (.int k l)) (hhi:(hi.map a.eval=none/\h=s.length)\/∃k,hi.map a.eval=some (.int k h)) :
  Yd P o a w (.string ⟨((s.take h.toNat).drop l.toNat).toArray⟩):=by
 have hb:=qA (P:=P) (w:=w) false s.length s.length (Nat.le_refl _) (lo.map a.eval) (hi.map a.eval) l h h0 h1 h2 hlo hhi;have hsz:(⟨s.toArray⟩:ByteArray).size=s.length:=rfl;simp[Yd,execOp,ho,hx,Instr.sliceAt,Instr.slice,run_underlying ht,hsz,hb,data_extract]
theorem K9{t e:TypeId}{x:Operand}{lo hi:Option Operand}(ho:o.op=.slice t x lo hi none)(ht:P.underlying t=some (.slice e)){inf:TypeInfo}(hi':P.info? e=some inf)(hiz:inf.size=1){z:D}{L:List D}(hzc:z.cells.length=1)
  (hx:Rd w A (a.eval x) (.slice z L)) {l h:Int} (h0 : 0<=l) (h1:l<=h) (h2:h<=L.length)
  (hlo:(lo.map a.eval=none/\l=0)\/∃k,lo.map a.eval=some (.int k l)) (hhi:(hi.map a.eval=none/\h=L.length)\/∃k,hi.map a.eval=some (.int k h)) :
  ∃v,Yd P o a w v/\Rd w A v (.slice z ((L.take h.toNat).drop l.toNat)):=by
 have hlen:((L.take h.toNat).drop l.toNat).length=h.toNat-l.toNat:=by simp;omega
 have hne:(Instr.sliceAt t (a.eval x) (lo.map a.eval) (hi.map a.eval) none).run P w=(Instr.slice t (a.eval x) (lo.map a.eval) (hi.map a.eval) none).run P w:=by
  simp[Instr.sliceAt,run_underlying ht]
 generalize hv:a.eval x=v at *;cases hx with
 | nil =>
  have hb:=qA (P:=P) (w:=w) true 0 0 (Nat.le_refl _) (lo.map a.eval) (hi.map a.eval) l h h0 h1 (by simpa using h2) hlo (by simpa using hhi);have e1:l=0:=by simp at h2;omega
  have e2:h=0:=by simp at h2;omega
  subst e1;subst e2;refine⟨.slice none 0 0,?_,by simpa using Rd.nil⟩;simp only[Yd,execOp,ho,hv,Sem.run_bind,Option.map_none,hne];simp[Instr.slice,run_underlying ht,hb,sizeOf,typeInfo,hi']
 | @empty _ p cap hm =>
  have hb:=qA (P:=P) (w:=w) true 0 cap (Nat.zero_le _) (lo.map a.eval) (hi.map a.eval) l h h0 h1 (by simpa using h2) hlo (by simpa using hhi);have e1:l=0:=by simp at h2;omega
  have e2:h=0:=by simp at h2;omega
  subst e1;subst e2;refine⟨.slice (some p) 0 cap,?_,by simpa using Rd.empty hm⟩;simp only[Yd,execOp,ho,hv,Sem.run_bind,Option.map_none,hne];have hadd:p.add 0=p:=by unfold Addr.add;simp
  simp[Instr.slice,run_underlying ht,hb,sizeOf,typeInfo,hi',hadd]
 | @slice _ _ b off cap sz hA hc hm hz hzz hsz vs hcells hr =>
  have hs1:sz=1:=by omega
  subst hs1;have hb:=qA (P:=P) (w:=w) true L.length cap hc (lo.map a.eval) (hi.map a.eval) l h h0 h1 h2 hlo hhi;by_cases hml:cap=l.toNat
  ·subst hml
   refine⟨.slice (some ⟨b,off,none⟩) (h.toNat-l.toNat) (l.toNat-l.toNat),?_,?_⟩
   ·simp only[Yd,execOp,ho,hv,Sem.run_bind,Option.map_none,hne]
    simp[Instr.slice,run_underlying ht,hb,sizeOf,typeInfo,hi']
   ·have:(L.take h.toNat).drop l.toNat=[]:=List.eq_nil_of_length_eq_zero (by omega)
    have hr2:Rd w A (.slice (some ⟨b,off,none⟩) ([]:List D).length (l.toNat-l.toNat)) (.slice z []):=Rd.slice hA (by simp) (by omega) hz hzz (by simp) (fun _=>undef) (by simp[cellAt]) (by simp[cellAt]);rw[<-hlen,this];exact hr2
  ·have hml':¬cap=l.toNat:=hml
   refine⟨.slice (some ⟨b,off+l.toNat*inf.size,none⟩) (h.toNat-l.toNat) (cap-l.toNat),?_,?_⟩
   ·simp only[Yd,execOp,ho,hv,Sem.run_bind,Option.map_none,hne]
    have hadd:(⟨b,off,none⟩:Addr).add (l.toNat*inf.size)=⟨b,off+l.toNat*inf.size,none⟩:=by unfold Addr.add;split<;>simp_all
    simp[Instr.slice,run_underlying ht,hb,sizeOf,typeInfo,hi',hml',hadd]
   ·rw[hiz,<-hlen]
    refine Rd.slice hA (by omega) (by omega) hz hzz (fun y hy=>hsz y (List.mem_of_mem_take (List.mem_of_mem_drop hy))) (fun j=>vs (l.toNat*1+j)) (fun j y hy=>?_) (fun j y hy=>?_)
    ·have:=hcells _ _ (wN hz hy)
     rwa [<-Nat.add_assoc] at this
    ·exact hr _ _ (wN hz hy)
theorem XM{t e:TypeId}{x:Operand}{hi:Option Operand}(ho:o.op=.slice t x none hi none)(ht:P.underlying t=some (.slice e)){inf:TypeInfo}(hi':P.info? e=some inf)
  {q:Option Addr} {m c:Nat} (hv:a.eval x=.slice q m c) (hmc:m<=c) (hq:q=none->c=0) {h:Int} (h0 : 0<=h) (h1:h<=m)
  (hhi:(hi.map a.eval=none/\h=m)\/∃k,hi.map a.eval=some (.int k h)):Yd P o a w (.slice q h.toNat c):=by
 have hne:(Instr.sliceAt t (.slice q m c) none (hi.map a.eval) none).run P w=(Instr.slice t (.slice q m c) none (hi.map a.eval) none).run P w:=by
  simp[Instr.sliceAt,run_underlying ht]
 have hb:=qA (P:=P) (w:=w) true m c hmc none (hi.map a.eval) 0 h (Int.le_refl _) h0 h1 (.inl ⟨rfl,rfl⟩) hhi;cases q with
 | none =>
  have e1:=hq rfl;subst e1;have e2:m=0:=by omega
  subst e2;have e3:h=0:=by omega
  subst e3;simp only[Yd,execOp,ho,hv,Sem.run_bind,Option.map_none,hne];simp[Instr.slice,run_underlying ht,hb,sizeOf,typeInfo,hi']
 | some p =>
  have hadd:p.add 0=p:=by unfold Addr.add;simp
  by_cases hc0:c=0
  ·subst hc0
   simp only[Yd,execOp,ho,hv,Sem.run_bind,Option.map_none,hne];simp[Instr.slice,run_underlying ht,hb,sizeOf,typeInfo,hi']
  ·simp only[Yd,execOp,ho,hv,Sem.run_bind,Option.map_none,hne]
   simp[Instr.slice,run_underlying ht,hb,sizeOf,typeInfo,hi',hc0,hadd]
end
end Go.D3
