/- THE OPERATIONS IN SHORT FORM AND WHAT THE PURE ONES COMPUTE. Generic. -/
import Derived.Calls
import Derived.Laws.World
import Derived.Lib.Builder
import Derived.Lib.UnsafeStr
import GoSem.ClaimData
namespace Go.D3
open Go
abbrev Path:=List (Nat×Nat)
inductive D where
 | int (k:IntKind) (n:Int)
 | bool (b:Bool)
 | str (s:List UInt8)
 | slice (z:D) (l:List D)
 | agg (l:List D)
 | av (l:List D)
 | ptr (l:List D)
 | bd
 | fn (f:FuncId) (caps:List D)
 | vw (x:D)
 | o (x:D)
 | box (l:List D)
 | row (z:D) (l:List D)
 | sub (k:Nat) (p:Path)
 | aG (k:Nat) (p:Path)
 | pre (k:Nat) (p:Path) (n:Nat)
 | when (g:Bool) (x:D)
 | aH (z:D)
 | dead
 | mp (ks vs:List D)
 | bS
 | bE (t:TypeId) (x:D)
 | bz
 | b6 (s:List UInt8) (pos:Nat)
 | ia (n:Nat)
 | sb (T e:TypeId) (s:List UInt8)
 deriving Inhabited
def D.cells:D->List D
 | .agg l=>l
 | d=>[d]
def D.isAgg:D->Bool
 | .agg _=>true
 | _=>false
theorem D.cells_one{d:D}(h:d.isAgg=false):d.cells=[d]:=by
 cases d<;>simp[D.isAgg] at h<;>rfl
def cellAt(L:List D)(sz:Nat)(j:Nat):Option D:=(L[j / sz]?).bind fun(d:D)=>d.cells[j % sz]?
theorem mB{L:List D}{sz j:Nat}{x:D}(I : 0<sz)(h:cellAt L sz j=some x):j<L.length*sz:=by
 unfold cellAt at h;cases hL:L[j / sz]? with
 | none=>simp[hL] at h
 | some d=>exact(Nat.div_lt_iff_lt_mul I).1 (List.getElem?_eq_some_iff.1 hL).1
theorem Fh{L:List D}{sz j:Nat}(Y : 0<sz)(V:∀x∈L,x.cells.length=sz)(h:j<L.length*sz):∃x,cellAt L sz j=some x:=by
 have I:j / sz<L.length:=(Nat.div_lt_iff_lt_mul Y).2 h;have Z:=V L[j / sz] (List.getElem_mem I);have W:=Nat.mod_lt j Y;have S:j % sz<(L[j / sz]).cells.length:=by omega
 exact⟨(L[j / sz]).cells[j % sz],by simp[cellAt,List.getElem?_eq_getElem I,List.getElem?_eq_getElem S]⟩
inductive Sc:Value->D->Prop
 | int {k:IntKind} {n:Int} (h:k.has n):Sc (.int k n) (.int k n)
 | bool {b:Bool}:Sc (.bool b) (.bool b)
 | str {s:List UInt8} (h:s.length<=maxLen):Sc (.string ⟨s.toArray⟩) (.str s)
 | agg {cs:Array Value} {l:List D} (hs:cs.size=l.length) (hr:∀j x,l[j]?=some x->Sc (cs.getD j undef) x):Sc (.agg cs) (.agg l)
def pf(es:Array MapEntry)(ks vs:List D):Prop :=
 (es.size=ks.length/\vs.length=ks.length/\ks.length<=maxLen)/\(∀(j:Nat)(e:MapEntry)(k:D),es[j]?=some e->ks[j]?=some k->Sc e.key k)/\∀(j:Nat)(e:MapEntry)(v:D),es[j]?=some e->vs[j]?=some v->Sc e.val v
def sM(w:World)(b:Nat)(g:Option Nat)(T e:TypeId)(s:List UInt8):Prop :=
 ∃p v,(p=.pointer none\/p=.pointer (some ⟨b,0,none⟩))/\w.heap[b]?=some (.cells #[p,v] T (0,0))/\w.ownsRow 0 e 1 v s.length (Lib.byteCells s)/\v.ownBlock=g/\g≠some b/\s.length<=maxLen
theorem sM.mono{w w':World}{b:Nat}{g:Option Nat}{T e:TypeId}{s:List UInt8}(h:sM w b g T e s)(hb:w'.heap[b]?=w.heap[b]?)(hg:∀c,g=some c->w'.heap[c]?=w.heap[c]?):sM w' b g T e s:=by
 obtain⟨p,v,hp,h1,S,V,h4,h5⟩:=h;refine⟨p,v,hp,by rw[hb];exact h1,?_,V,h4,h5⟩;refine⟨S.1,S.2.imp id fun⟨c,cap,cur,I,W,Y,Z⟩=>⟨c,cap,cur,I,W,?_,Z⟩⟩;subst I;rw[hg c V.symm];exact Y
inductive Rd(w:World)(A:Nat->Prop):Value->D->Prop
 | int {k:IntKind} {n:Int} (h:k.has n):Rd w A (.int k n) (.int k n)
 | bool {b:Bool}:Rd w A (.bool b) (.bool b)
 | str {s:List UInt8} (h:s.length<=maxLen):Rd w A (.string ⟨s.toArray⟩) (.str s)
 | nil {z:D}:Rd w A (.slice none 0 0) (.slice z [])
 | empty {z:D} {p:Addr} {cap:Nat} (hm:cap<=maxLen):Rd w A (.slice (some p) 0 cap) (.slice z [])
 | slice {z:D} {L:List D} {b off cap sz:Nat} (hA:A b) (hc:L.length<=cap) (hm:cap<=maxLen) (hz : 0<sz) (hzz:z.cells.length=sz)
   (hsz:∀x∈L,x.cells.length=sz)
   (vs:Nat->Value) (hcells:∀j x,cellAt L sz j=some x->w.cell? ⟨b,off+j,none⟩=some (vs j))
   (hr:∀j x,cellAt L sz j=some x->Rd w A (vs j) x):Rd w A (.slice (some ⟨b,off,none⟩) L.length cap) (.slice z L)
 | agg {cs:Array Value} {l:List D} (hs:cs.size=l.length) (hr:∀j x,l[j]?=some x->Rd w A (cs.getD j undef) x):Rd w A (.agg cs) (.agg l)
 | av {cs:Array Value} {l:List D} (hs:cs.size=l.length) (hr:∀j x,l[j]?=some x->Rd w A (cs.getD j undef) x):Rd w A (.tuple cs) (.av l)
 | ptr {b off:Nat} {l:List D} (hA:A b) (vs:Nat->Value) (hcells:∀j x,l[j]?=some x->w.cell? ⟨b,off+j,none⟩=some (vs j))
   (hr:∀j x,l[j]?=some x->Rd w A (vs j) x):Rd w A (.pointer (some ⟨b,off,none⟩)) (.ptr l)
 | bd:Rd w A (.pointer none) .bd
 | fn {f:FuncId} {cs:Array Value} {l:List D} (hs:cs.size=l.length) (hr:∀j x,l[j]?=some x->Rd w A (cs.getD j undef) x):Rd w A (.func (.func f) #[] cs) (.fn f l)
 | vw {v:Value} {d:D} (h:Rd w A v d):Rd w A v (.vw d)
 | o {v:Value} {d:D} (h:Rd w A v d):Rd w A v (.o d)
 | aH {z:D}:Rd w A (.slice none 0 0) (.aH z)
 | dead {v:Value}:Rd w A v .dead
 | mp {ks vs:List D} {r clock:Nat} {es:Array MapEntry} (hA:A r) (hb:w.heap[r]?=some (.map es clock)) (hE:pf es ks vs):Rd w A (.map (some r)) (.mp ks vs)
 | bS:Rd w A (.map none) .bS
 | bE {t:TypeId} {v:Value} {d:D} (h:Rd w A v d):Rd w A (.iface t v) (.bE t d)
 | bz:Rd w A .nilIface .bz
 | b6 {s:List UInt8} {pos r:Nat} (hA:A r) (hb:w.heap[r]?=some (.stringIter ⟨s.toArray⟩ pos)) (hs:s.length<=maxLen):Rd w A (.pointer (some ⟨r,0,none⟩)) (.b6 s pos)
 | ia {n:Nat} {t:TypeId} {a:Addr} (hA:A n) (hc:w.cell? ⟨n,0,none⟩=some (.iface t (.pointer (some a)))):Rd w A (.pointer (some a)) (.ia n)
 | sb {T e:TypeId} {s:List UInt8} {b:Nat} {g:Option Nat} (hA:A b) (hg:∀c,g=some c->A c) (h:sM w b g T e s):Rd w A (.pointer (some ⟨b,0,none⟩)) (.sb T e s)
theorem cell_of_heap{w w':World}{b off:Nat}(h:w'.heap[b]?=w.heap[b]?):w'.cell? ⟨b,off,none⟩=w.cell? ⟨b,off,none⟩:=by
 simp[World.cell?,h]
theorem Rd.mono{w w':World}{A A':Nat->Prop}{v:Value}{d:D}(h:Rd w A v d)(hA:∀b,A b->A' b)(hw:∀b,A b->w'.heap[b]?=w.heap[b]?):Rd w' A' v d:=by
 induction h with
 | int h=>exact .int h
 | bool=>exact .bool
 | str h=>exact .str h
 | nil=>exact .nil
 | empty h=>exact .empty h
 | slice S Y hm hz ag ad vs I _ V =>
  exact .slice (hA _ S) Y hm hz ag ad vs (fun j x hx=>by rw[cell_of_heap (hw _ S)];exact I j x hx) V
 | agg Z _ V=>exact .agg Z V
 | av Z _ V=>exact .av Z V
 | ptr S vs I _ V =>
  exact .ptr (hA _ S) vs (fun j x hx=>by rw[cell_of_heap (hw _ S)];exact I j x hx) V
 | bd=>exact .bd
 | fn Z _ V=>exact .fn Z V
 | vw _ V=>exact .vw V
 | o _ V=>exact .o V
 | aH=>exact .aH
 | dead=>exact .dead
 | mp W hb hE=>exact .mp (hA _ W) (by rw[hw _ W];exact hb) hE
 | bS=>exact .bS
 | bE _ V=>exact .bE V
 | bz=>exact .bz
 | b6 W hb Z=>exact .b6 (hA _ W) (by rw[hw _ W];exact hb) Z
 | ia ab Y=>exact .ia (hA _ ab) (by rw[cell_of_heap (hw _ ab)];exact Y)
 | sb S hg h=>exact .sb (hA _ S) (fun c Y=>hA _ (hg c Y)) (h.mono (hw _ S) fun c Y=>hw _ (hg c Y))
inductive aq(w:World)(A:Nat->Prop):Value->D->(Nat->Prop)->Prop
 | int {k:IntKind} {n:Int} {F:Nat->Prop} (h:k.has n):aq w A (.int k n) (.int k n) F
 | bool {b:Bool} {F:Nat->Prop}:aq w A (.bool b) (.bool b) F
 | str {s:List UInt8} {F:Nat->Prop} (h:s.length<=maxLen):aq w A (.string ⟨s.toArray⟩) (.str s) F
 | nil {z:D} {F:Nat->Prop}:aq w A (.slice none 0 0) (.slice z []) F
 | bd {F:Nat->Prop}:aq w A (.pointer none) .bd F
 | fn {f:FuncId} {F:Nat->Prop}:aq w A (.func (.func f) #[] #[]) (.fn f []) F
 | vw {v:Value} {d:D} {F:Nat->Prop} (h:Rd w A v d):aq w A v (.vw d) F
 | dead {v:Value} {F:Nat->Prop}:aq w A v .dead F
 | mp {ks vs:List D} {r clock:Nat} {es:Array MapEntry} {F:Nat->Prop} (hF:F r) (hb:w.heap[r]?=some (.map es clock)) (hE:pf es ks vs):aq w A (.map (some r)) (.mp ks vs) F
 | bS {F:Nat->Prop}:aq w A (.map none) .bS F
 | bE {t:TypeId} {v:Value} {d:D} {F:Nat->Prop} (h:Rd w A v d):aq w A (.iface t v) (.bE t d) F
 | bz {F:Nat->Prop}:aq w A .nilIface .bz F
 | b6 {s:List UInt8} {pos r:Nat} {F:Nat->Prop} (hF:F r) (hb:w.heap[r]?=some (.stringIter ⟨s.toArray⟩ pos)) (hs:s.length<=maxLen):aq w A (.pointer (some ⟨r,0,none⟩)) (.b6 s pos) F
 | sb {T e:TypeId} {s:List UInt8} {b:Nat} {g:Option Nat} {F:Nat->Prop} (hF:F b) (hg:∀c,g=some c->F c) (h:sM w b g T e s):aq w A (.pointer (some ⟨b,0,none⟩)) (.sb T e s) F
 | slice {z:D} {L:List D} {b off cap sz:Nat} {cs:Array Value} {e:TypeId} {fz:Nat×Nat} {F:Nat->Prop} (Fs:Nat->Nat->Prop) (hb:w.heap[b]?=some (.cells cs e fz))
   (hroom:off+cap*sz<=cs.size/\(fz.2<=fz.1\/cs.size<=fz.1)) (hc:L.length<=cap) (hm:cap<=maxLen) (hz : 0<sz) (hzz:z.cells.length=sz)
   (hsz:∀x∈L,x.cells.length=sz)
   (hr:∀j x,cellAt L sz j=some x->aq w A (cs.getD (off+j) undef) x (Fs j)) (hF:F b)
   (hfs:∀j c,Fs j c->c≠b/\F c) (hdis:∀i j c,i≠j->Fs i c->¬Fs j c) :
   aq w A (.slice (some ⟨b,off,none⟩) L.length cap) (.slice z L) F
 | agg {cs:Array Value} {l:List D} {F:Nat->Prop} (Fs:Nat->Nat->Prop) (hs:cs.size=l.length) (hr:∀j x,l[j]?=some x->aq w A (cs.getD j undef) x (Fs j))
   (hfs:∀j c,Fs j c->F c) (hdis:∀i j c,i≠j->Fs i c->¬Fs j c):aq w A (.agg cs) (.agg l) F
 | av {cs:Array Value} {l:List D} {F:Nat->Prop} (Fs:Nat->Nat->Prop) (hs:cs.size=l.length) (hr:∀j x,l[j]?=some x->aq w A (cs.getD j undef) x (Fs j))
   (hfs:∀j c,Fs j c->F c) (hdis:∀i j c,i≠j->Fs i c->¬Fs j c):aq w A (.tuple cs) (.av l) F
 | ptr {b:Nat} {l:List D} {cs:Array Value} {e:TypeId} {F:Nat->Prop} (Fs:Nat->Nat->Prop) (hb:w.heap[b]?=some (.cells cs e (0,0))) (hs:cs.size=l.length)
   (hr:∀j x,l[j]?=some x->aq w A (cs.getD j undef) x (Fs j)) (hF:F b)
   (hfs:∀j c,Fs j c->c≠b/\F c) (hdis:∀i j c,i≠j->Fs i c->¬Fs j c):aq w A (.pointer (some ⟨b,0,none⟩)) (.ptr l) F
theorem getD_some{cs:Array Value}{j:Nat}(h:j<cs.size):cs[j]?=some (cs.getD j undef):=by
 simp[h]
theorem fQ{w:World}{b j:Nat}{cs:Array Value}{e:TypeId}{fz:Nat×Nat}(I:w.heap[b]?=some (.cells cs e fz))(h:j<cs.size):w.cell? ⟨b,j,none⟩=some (cs.getD j undef):=by
 simp[World.cell?,I,h]
theorem aq.rd{w:World}{A A':Nat->Prop}{v:Value}{d:D}{F:Nat->Prop}(h:aq w A v d F):(∀b,A b->A' b)->(∀b,F b->A' b)->Rd w A' v d:=by
 induction h with
 | int h=>exact fun _ _=>.int h
 | bool=>exact fun _ _=>.bool
 | str h=>exact fun _ _=>.str h
 | nil=>exact fun _ _=>.nil
 | bd=>exact fun _ _=>.bd
 | fn=>exact fun _ _=>.fn rfl (fun j x V=>by simp at V)
 | vw h=>exact fun hA _=>.vw (h.mono hA fun _ _=>rfl)
 | dead=>exact fun _ _=>.dead
 | mp hF Z hE=>exact fun _ I=>.mp (I _ hF) Z hE
 | bS=>exact fun _ _=>.bS
 | bE h=>exact fun hA _=>.bE (h.mono hA fun _ _=>rfl)
 | bz=>exact fun _ _=>.bz
 | b6 hF Z hs=>exact fun _ I=>.b6 (I _ hF) Z hs
 | sb hF hg h=>exact fun _ I=>.sb (I _ hF) (fun c Y=>I _ (hg c Y)) h
 | @slice z L b off cap sz cs e fz F Fs Z hroom Y hm hz hzz hsz hr hF S W ih =>
  intro hA I;refine .slice (I _ hF) Y hm hz hzz hsz (fun j=>cs.getD (off+j) undef) (fun j x V=>?_) (fun j x V=>ih j x V hA fun c ab=>I c (S j c ab).2);have hj:=mB hz V;have h1:L.length*sz<=cap*sz:=Nat.mul_le_mul_right _ Y;exact fQ Z (by omega)
 | agg Fs hs _ S W ih=>exact fun hA I=>.agg hs fun j x V=>ih j x V hA fun c Y=>I c (S j c Y)
 | av Fs hs _ S W ih=>exact fun hA I=>.av hs fun j x V=>ih j x V hA fun c Y=>I c (S j c Y)
 | @ptr b l cs e F Fs Z hs hr hF S W ih =>
  intro hA I;refine .ptr (I _ hF) (fun j=>cs.getD j undef) (fun j x V=>?_) (fun j x V=>ih j x V hA fun c ab=>I c (S j c ab).2);have hj:=(List.getElem?_eq_some_iff.1 V).1;rw[Nat.zero_add];exact fQ Z (by omega)
theorem aq.mono{w w':World}{A A':Nat->Prop}{v:Value}{d:D}{F:Nat->Prop}(h:aq w A v d F) :
  ∀{F':Nat->Prop},(∀b,A b->A' b)->(∀b,A b->w'.heap[b]?=w.heap[b]?)->(∀b,F b->w'.heap[b]?=w.heap[b]?)->(∀b,F b->F' b)->aq w' A' v d F':=by
 induction h with
 | int h=>exact fun _ _ _ _=>.int h
 | bool=>exact fun _ _ _ _=>.bool
 | str h=>exact fun _ _ _ _=>.str h
 | nil=>exact fun _ _ _ _=>.nil
 | bd=>exact fun _ _ _ _=>.bd
 | fn=>exact fun _ _ _ _=>.fn
 | vw h=>exact fun hA hw _ _=>.vw (h.mono hA hw)
 | dead=>exact fun _ _ _ _=>.dead
 | mp hF Z hE=>exact fun _ _ hw S=>.mp (S _ hF) (by rw[hw _ hF];exact Z) hE
 | bS=>exact fun _ _ _ _=>.bS
 | bE h=>exact fun hA hw _ _=>.bE (h.mono hA hw)
 | bz=>exact fun _ _ _ _=>.bz
 | b6 hF Z hs=>exact fun _ _ hw S=>.b6 (S _ hF) (by rw[hw _ hF];exact Z) hs
 | sb hF hg h=>exact fun _ _ hw S=>.sb (S _ hF) (fun c hc=>S _ (hg c hc)) (h.mono (hw _ hF) fun c hc=>hw _ (hg c hc))
 | slice Fs Z ab hc hm hz ag ad _ hF V W ih =>
  exact fun hA Y hw S=>.slice Fs (by rw[hw _ hF];exact Z) ab hc hm hz ag ad (fun j x hx=>ih j x hx hA Y (fun c I=>hw c (V j c I).2) fun c I=>I) (S _ hF) (fun j c I=>⟨(V j c I).1,S _ (V j c I).2⟩) W
 | agg Fs hs _ V W ih =>
  exact fun hA Y hw S=>.agg Fs hs (fun j x hx=>ih j x hx hA Y (fun c I=>hw c (V j c I)) fun c I=>I) (fun j c I=>S _ (V j c I)) W
 | av Fs hs _ V W ih =>
  exact fun hA Y hw S=>.av Fs hs (fun j x hx=>ih j x hx hA Y (fun c I=>hw c (V j c I)) fun c I=>I) (fun j c I=>S _ (V j c I)) W
 | ptr Fs Z hs _ hF V W ih =>
  exact fun hA Y hw S=>.ptr Fs (by rw[hw _ hF];exact Z) hs (fun j x hx=>ih j x hx hA Y (fun c I=>hw c (V j c I).2) fun c I=>I) (S _ hF) (fun j c I=>⟨(V j c I).1,S _ (V j c I).2⟩) W
def D.un:D->D
 | .o d=>d
 | d=>d
def D.dV:D->Nat->Nat->D
 | .slice z l,i,off=>(l.getD i z).cells.getD off .dead
 | .row z l,i,off=>(l.getD i z).cells.getD off .dead
 | .ptr l,_,off=>l.getD off .dead
 | .box l,_,off=>l.getD off .dead
 | .agg l,_,off=>l.getD off .dead
 | .av l,_,off=>l.getD off .dead
 | _,_,_=>.dead
def D.aY(x:D)(i off:Nat):D:=x.un.dV i off
def kS(e y:D):Prop:=e.isAgg=true\/y.isAgg=false
def dM(e:D)(off:Nat)(y:D):D :=
 match e with
 | .agg l=>.agg (l.set off y)
 | _=>y
def D.dw:D->Nat->Nat->D->D
 | .slice z l,i,off,y=>.slice z (l.set i (dM (l.getD i z) off y))
 | .row z l,i,off,y=>.row z (l.set i (dM (l.getD i z) off y))
 | .ptr l,_,off,y=>.ptr (l.set off y)
 | .box l,_,off,y=>.box (l.set off y)
 | .agg l,_,off,y=>.agg (l.set off y)
 | .av l,_,off,y=>.av (l.set off y)
 | d,_,_,_=>d
def D.iW:D->Nat->D->Prop
 | .slice z l,i,y=>kS (l.getD i z) y
 | .row z l,i,y=>kS (l.getD i z) y
 | _,_,_=>True
def D.fw(x:D)(i off:Nat)(y:D):D :=
 match x with
 | .o d=>.o (d.dw i off y)
 | d=>d.dw i off y
def D.fg:D->Nat->Nat->Prop
 | .slice z l,i,off=>i<l.length/\off<z.cells.length
 | .row z l,i,off=>i<l.length/\off<z.cells.length
 | .ptr l,i,off=>i=0/\off<l.length
 | .box l,i,off=>i=0/\off<l.length
 | .agg l,i,off=>i=0/\off<l.length
 | .av l,i,off=>i=0/\off<l.length
 | _,_,_=>False
def D.lW(x:D)(i off:Nat):Prop:=x.un.fg i off
def D.at(x:D):Path->D
 | []=>x
 | (i,off)::p=>(x.aY i off).at p
def D.setAt(x:D):Path->D->D
 | [],y=>y
 | (i,off)::p,y=>x.fw i off ((x.aY i off).setAt p y)
def D.has(x:D):Path->Prop
 | []=>True
 | (i,off)::p=>x.lW i off/\(x.aY i off).has p
def dU(v:Value):D->Nat->Nat->Option Addr
 | .slice z _,i,off=>match v with
  | .slice (some a) _ _=>some ⟨a.block,a.off+(i*z.cells.length+off),none⟩
  | _=>none
 | .row z _,i,off=>match v with
  | .slice (some a) _ _=>some ⟨a.block,a.off+(i*z.cells.length+off),none⟩
  | _=>none
 | .ptr _,_,off=>match v with
  | .pointer (some a)=>some ⟨a.block,a.off+off,none⟩
  | _=>none
 | .box _,_,off=>match v with
  | .pointer (some a)=>some ⟨a.block,a.off+off,none⟩
  | _=>none
 | _,_,_=>none
def dI(v:Value)(x:D)(i off:Nat):Option Addr:=dU v x.un i off
def mW(w:World)(v:Value):D->Nat->Nat->Option Value
 | .agg _,_,off=>match v with
  | .agg cs=>some (cs.getD off undef)
  | _=>none
 | .av _,_,off=>match v with
  | .tuple cs=>some (cs.getD off undef)
  | _=>none
 | x,i,off=>(dU v x i off).bind w.cell?
def cG(w:World)(v:Value)(x:D)(i off:Nat):Option Value:=mW w v x.un i off
def aR(w:World)(v:Value)(x:D):Path->Option Value
 | []=>some v
 | (i,off)::p=>(cG w v x i off).bind fun u=>aR w u (x.aY i off) p
def aJ(w:World)(v:Value)(x:D):Path->Option Addr
 | []=>none
 | [(i,off)]=>dI v x i off
 | (i,off)::p=>(cG w v x i off).bind fun u=>aJ w u (x.aY i off) p
theorem Fg{z:D}{L:List D}{sz i off:Nat}(hz:z.cells.length=sz)(S:∀x∈L,x.cells.length=sz)(hi:i<L.length)(V:off<sz) :
  cellAt L sz (i*sz+off)=some ((D.slice z L).dV i off):=by
 have I : 0<sz:=by omega
 have W:(i*sz+off) / sz=i:=by
  rw[Nat.mul_comm,Nat.mul_add_div I,Nat.div_eq_of_lt V];omega
 have Y:(i*sz+off) % sz=off:=by
  rw[Nat.mul_comm,Nat.mul_add_mod,Nat.mod_eq_of_lt V]
 have Z:=S L[i] (List.getElem_mem hi);simp only[cellAt,W,Y,D.dV,List.getElem?_eq_getElem hi,Option.bind_some];simp only[List.getD_eq_getElem?_getD,List.getElem?_eq_getElem hi,Option.getD_some];rw[List.getElem?_eq_getElem (by omega)];rfl
theorem xh{e y:D}{off:Nat}(S:kS e y)(I:off<e.cells.length):(dM e off y).cells=e.cells.set off y:=by
 cases e
 case agg l=>rfl
 all_goals
  simp only[D.cells,List.length_cons,List.length_nil] at I;have:off=0:=by omega
  subst this;simp only[dM,D.cells_one (S.resolve_left (by simp[D.isAgg]))];rfl
theorem Pd{z:D}{L:List D}{sz i off j:Nat}{y:D}(ab:z.cells.length=sz)(V:∀x∈L,x.cells.length=sz)(Z:kS (L.getD i z) y)(hi:i<L.length)(Y:off<sz) :
  cellAt (L.set i (dM (L.getD i z) off y)) sz j=if j=i*sz+off then some y else cellAt L sz j:=by
 have I : 0<sz:=by omega
 have S:L.getD i z=L[i]:=by rw[List.getD_eq_getElem?_getD,List.getElem?_eq_getElem hi];rfl
 have hl:=V L[i] (List.getElem_mem hi);unfold cellAt;by_cases hji:j / sz=i
 ·have hj:j=i*sz+j % sz:=by
   have:=Nat.div_add_mod j sz;rw[hji,Nat.mul_comm] at this;omega
  rw[hji,List.getElem?_set_self hi,Option.bind_some,xh Z (by rw[S];omega),S,List.getElem?_eq_getElem hi,Option.bind_some];have hm:=Nat.mod_lt j I;by_cases W:j % sz=off
  ·rw[if_pos (by omega),W,List.getElem?_set_self (by omega)]
  ·rw[if_neg (by omega),List.getElem?_set_ne (Ne.symm W)]
 ·rw[List.getElem?_set_ne (Ne.symm hji)]
  rw[if_neg];rintro rfl;apply hji;rw[Nat.mul_comm,Nat.mul_add_div I,Nat.div_eq_of_lt Y];omega
theorem ZW{z:D}{L:List D}{sz i off:Nat}{y:D}(S:∀x∈L,x.cells.length=sz)(Y:kS (L.getD i z) y)(hi:i<L.length)(Z:off<sz) :
  ∀x∈L.set i (dM (L.getD i z) off y),x.cells.length=sz:=by
 intro x W;have I:L.getD i z=L[i]:=by rw[List.getD_eq_getElem?_getD,List.getElem?_eq_getElem hi];rfl
 have V:=S L[i] (List.getElem_mem hi);rcases List.mem_or_eq_of_mem_set W with h | h
 ·exact S x h
 ·rw[h,xh Y (by rw[I];omega),List.length_set,I,V]
mutual
def D.strip:D->D
 | .vw d=>(match d.strip with | .agg l=>.vw (.agg l) | d'=>d')
 | .slice z l=>.slice z.strip (ei l)
 | .agg l=>.agg (ei l)
 | .av l=>.av (ei l)
 | .ptr l=>.ptr (ei l)
 | .aH z=>.slice z []
 | d=>d
def ei:List D->List D
 | []=>[]
 | x::r=>x.strip::ei r
end
theorem o5:∀{l:List D},ei l=l.map D.strip
 | []=>rfl
 | x::r=>by rw[ei,o5];rfl
theorem oZ{l:List D}:(ei l).length=l.length:=by rw[o5,List.length_map]
theorem qK{l:List D}{j:Nat}{x:D}(h:(ei l)[j]?=some x):∃y,l[j]?=some y/\x=y.strip:=by
 rw[o5,List.getElem?_map,Option.map_eq_some_iff] at h;obtain⟨y,h1,I⟩:=h;exact⟨y,h1,I.symm⟩
theorem BM{d:D}:d.strip.cells=d.cells.map D.strip:=by
 cases d
 case agg l=>show ei l=_;rw[o5];rfl
 case vw d =>
  show(match d.strip with | .agg l=>D.vw (.agg l) | I=>I).cells=[match d.strip with | .agg l=>D.vw (.agg l) | I=>I];cases d.strip<;>rfl
 all_goals rfl
theorem Fi{L:List D}{sz j:Nat}{x:D}(h:cellAt (ei L) sz j=some x):∃y,cellAt L sz j=some y/\x=y.strip:=by
 unfold cellAt at h|-
 rw[Option.bind_eq_some_iff] at h;obtain⟨e,h1,I⟩:=h;obtain⟨Y,S,rfl⟩:=qK h1;rw[BM,List.getElem?_map,Option.map_eq_some_iff] at I;obtain⟨y,V,W⟩:=I;exact⟨y,by rw[S];exact V,W.symm⟩
theorem Rd.strip{w:World}{A:Nat->Prop}{v:Value}{d:D}(h:Rd w A v d):Rd w A v d.strip:=by
 induction h with
 | int h=>exact .int h
 | bool=>exact .bool
 | str h=>exact .str h
 | nil=>exact .nil
 | empty h=>exact .empty h
 | @slice z L b off cap sz hA hc hm hz hzz hsz vs I _ W =>
  have:=Rd.slice (w:=w) (A:=A) (z:=z.strip) (L:=ei L) (off:=off) (sz:=sz) hA (by rw[oZ];exact hc) hm hz (by rw[BM,List.length_map];exact hzz) (fun x S=>by
   rw[o5,List.mem_map] at S;obtain⟨y,V,rfl⟩:=S
   rw[BM,List.length_map];exact hsz y V) vs (fun j x S=>by obtain⟨y,V,rfl⟩:=Fi S;exact I j y V) (fun j x S=>by obtain⟨y,V,rfl⟩:=Fi S;exact W j y V)
  rwa [oZ] at this
 | agg Z _ W=>exact .agg (by rw[oZ];exact Z) fun j x S=>by obtain⟨y,V,rfl⟩:=qK S;exact W j y V
 | av Z _ W=>exact .av (by rw[oZ];exact Z) fun j x S=>by obtain⟨y,V,rfl⟩:=qK S;exact W j y V
 | ptr ab vs I _ W=>exact .ptr ab vs (fun j x S=>by obtain⟨y,V,rfl⟩:=qK S;exact I j y V) fun j x S=>by obtain⟨y,V,rfl⟩:=qK S;exact W j y V
 | bd=>exact .bd
 | fn Z hr _=>exact .fn Z hr
 | @vw v d _ W =>
  show Rd w A v (match d.strip with | .agg l=>D.vw (.agg l) | d'=>d');generalize d.strip=e at W;cases e<;>first | exact W | exact .vw W
 | o h _=>exact .o h
 | aH=>exact .nil
 | dead=>exact .dead
 | mp Y hb hE=>exact .mp Y hb hE
 | bS=>exact .bS
 | bE h _=>exact .bE h
 | bz=>exact .bz
 | b6 Y hb Z=>exact .b6 Y hb Z
 | ia ad hc=>exact .ia ad hc
 | sb hA hg h=>exact .sb hA hg h
end Go.D3
namespace Go.D3
open Go
def gl:Nat->Option D
 | _=>none
structure ik(w:World)(A:Nat->Prop):Prop where
 gl:∀(g:Nat)(d:D),gl g=some d->Rd w A (.pointer (some ⟨g,0,none⟩)) d
 F6:w.cell? ⟨0,0,none⟩=some (.iface 307 (.agg #[.pointer (some ⟨7,155,none⟩)]))/\A 0
theorem ik.Tw{w:World}{A:Nat->Prop}(h:w.cell? ⟨0,0,none⟩=some (.iface 307 (.agg #[.pointer (some ⟨7,155,none⟩)])))(a:A 0):ik w A:=⟨fun _ _ h=>(by cases h),h,a⟩
theorem ik.mono{w w':World}{A A':Nat->Prop}(h:ik w A)(hA:∀b,A b->A' b)(hw:∀b,A b->w'.heap[b]?=w.heap[b]?):ik w' A':=by
 obtain⟨h1,⟨I,a0⟩⟩:=h;exact⟨fun g d S=>(h1 g d S).mono hA hw,⟨by rw[cell_of_heap (hw 0 a0)];exact I,hA _ a0⟩⟩
end Go.D3
namespace Go.D3
open Go
theorem Bv{w:World}{b j:Nat}{cs:Array Value}{e:TypeId}{fz:Nat×Nat}(u:Value)(I:w.heap[b]?=some (.cells cs e fz)) :
  (w.setCell ⟨b,j,none⟩ u).heap[b]?=some (.cells (cs.setIfInBounds j u) e fz):=by
 simp[World.setCell,Array.getElem?_modify,I]
theorem Bw{w:World}{a:Addr}{c:Nat}(u:Value)(h:c≠a.block):(w.setCell a u).heap[c]?=w.heap[c]?:=by
 simp only[World.setCell,Array.getElem?_modify];rw[if_neg (Ne.symm h)]
theorem rA{cs:Array Value}{j:Nat}(u:Value)(h:j<cs.size):(cs.setIfInBounds j u).getD j undef=u:=by
 simp[h]
theorem getD_set_ne{cs:Array Value}{i j:Nat}(u:Value)(h:i≠j):(cs.setIfInBounds i u).getD j undef=cs.getD j undef:=by
 simp[Array.getElem?_setIfInBounds_ne h]
theorem aq.split{w:World}{A:Nat->Prop}{v:Value}{x:D}{F:Nat->Prop}(h:aq w A v x F){i off:Nat}(hk:x.fg i off) :
  ∃(u:Value)(F1 F2:Nat->Prop),mW w v x i off=some u/\aq w A u (x.dV i off) F1/\(∀b,F1 b->F b)/\(∀b,F2 b->F b)/\(∀b,F1 b->¬F2 b) /\
   (∀(w':World)(A':Nat->Prop)(y:D)(F1' F':Nat->Prop),(∀b,A b->A' b)->(∀b,A b->w'.heap[b]?=w.heap[b]?)->(∀b,F2 b->w'.heap[b]?=w.heap[b]?)->aq w' A' u y F1'->(∀b,F1' b->¬F2 b) ->
     x.iW i y->(∀b,F1' b->F' b)->(∀b,F2 b->F' b)->aq w' A' v (x.dw i off y) F') /\
   (∀a,dU v x i off=some a->F2 a.block/\a.spot=none/\w.cell? a=some u/\w.frozen? a=false /\
     ∀(u':Value)(w':World)(A':Nat->Prop)(y:D)(F1' F':Nat->Prop),(∀b,A b->A' b)->(∀b,A b->w'.heap[b]?=w.heap[b]?)->(∀b,F2 b->b≠a.block->w'.heap[b]?=w.heap[b]?) ->
      w'.heap[a.block]?=(w.setCell a u').heap[a.block]?->aq w' A' u' y F1'->(∀b,F1' b->¬F2 b) ->
      x.iW i y->(∀b,F1' b->F' b)->(∀b,F2 b->F' b)->aq w' A' v (x.dw i off y) F'):=by
 cases h with
 | int _ | bool | str _ | bd | fn | vw _ | dead | mp _ _ _ | bS | bE _ | bz | b6 _ _ _ | sb _ _ _=>exact hk.elim
 | nil=>simp[D.fg] at hk
 | @slice z L b o cap sz cs e fz F Fs hb hroom hc hm hz a8 hsz hr hF hfs hdis =>
  obtain⟨hi,ho⟩:=hk;rw[a8] at ho;have bg:=Fg a8 hsz hi ho;have I:i*sz+off<L.length*sz:=mB hz bg;have b4:L.length*sz<=cap*sz:=Nat.mul_le_mul_right _ hc;have S:o+(i*sz+off)<cs.size:=by omega
  have ax:∀(w':World)(A':Nat->Prop)(y:D)(F1' F':Nat->Prop)(Z:Array Value),(∀b,A b->A' b)->(∀b,A b->w'.heap[b]?=w.heap[b]?) ->
    (∀c,(c=b\/∃j,j≠i*sz+off/\Fs j c)->c≠b->w'.heap[c]?=w.heap[c]?)->w'.heap[b]?=some (.cells Z e fz)->Z.size=cs.size->(∀j,j≠i*sz+off->Z.getD (o+j) undef=cs.getD (o+j) undef) ->
    aq w' A' (Z.getD (o+(i*sz+off)) undef) y F1'->(∀c,F1' c->¬(c=b\/∃j,j≠i*sz+off/\Fs j c)) ->
    kS (L.getD i z) y->(∀b,F1' b->F' b)->(∀c,(c=b\/∃j,j≠i*sz+off/\Fs j c)->F' c)->aq w' A' (.slice (some ⟨b,o,none⟩) L.length cap) ((D.slice z L).dw i off y) F':=by
   intro w' A' y F1' F' Z hA V hw bT bF b1 hy hd ab h1 h2
   have key:=aq.slice (w:=w') (A:=A') (z:=z) (L:=L.set i (dM (L.getD i z) off y)) (b:=b) (off:=o) (cap:=cap) (sz:=sz) (cs:=Z) (e:=e) (F:=F')
    (fun j c=>if j=i*sz+off then F1' c else Fs j c) bT (by omega) (by simpa using hc) hm hz a8 (ZW hsz ab hi ho)
    (fun j x W=>by
      rw[Pd a8 hsz ab hi ho] at W;by_cases ao:j=i*sz+off
      ·rw[if_pos ao] at W
       injection W with W
       subst W;subst ao;simpa using hy
      ·rw[if_neg ao] at W
       simp only[if_neg ao,b1 j ao]
       exact(hr j x W).mono hA V (fun c ag=>hw c (.inr ⟨j,ao,ag⟩) (hfs j c ag).1) fun _ h=>h)
    (h2 b (.inl rfl))
    (fun j c ad=>by
      split at ad
      ·exact⟨fun b0=>hd c ad (.inl b0),h1 c ad⟩
      ·rename_i ao
       exact⟨(hfs j c ad).1,h2 c (.inr ⟨j,ao,ad⟩)⟩)
    (fun p q c a6 hp hq=>by
      split at hp<;>split at hq
      ·omega
      ·rename_i a7;exact hd c hp (.inr ⟨q,a7,hq⟩)
      ·rename_i a1 _;exact hd c hq (.inr ⟨p,a1,hp⟩)
      ·exact hdis p q c a6 hp hq)
   rw[List.length_set] at key;exact key
  refine⟨cs.getD (o+(i*sz+off)) undef,Fs (i*sz+off),(fun c=>c=b\/∃j,j≠i*sz+off/\Fs j c),?_,hr _ _ bg,fun c ag=>(hfs _ c ag).2,?_,?_,?_,?_⟩
  ·simp only[mW,dU,a8,Option.bind_some]
   exact fQ hb S
  ·rintro c (rfl | ⟨j,_,ad⟩)
   ·exact hF
   ·exact(hfs j c ad).2
  ·rintro c ag (rfl | ⟨j,Y,ad⟩)
   ·exact(hfs _ c ag).1 rfl
   ·exact hdis _ _ c (Ne.symm Y) ag ad
  ·intro w' A' y F1' F' hA V hw hy hd ab h1 h2
   exact ax w' A' y F1' F' cs hA V (fun c ag _=>hw c ag) (by rw[hw b (.inl rfl)];exact hb) rfl (fun _ _=>rfl) hy hd ab h1 h2
  ·intro a ha
   simp only[dU,a8,Option.some.injEq] at ha;subst ha;refine⟨.inl rfl,rfl,fQ hb S,by simp[World.frozen?,hb];omega,fun u' w' A' y F1' F' hA V hw b2 hy hd ab h1 h2=>?_⟩;refine ax w' A' y F1' F' (cs.setIfInBounds (o+(i*sz+off)) u') hA V hw (b2.trans (Bv u' hb)) (by simp) (fun j ad=>getD_set_ne _ (by omega)) ?_ hd ab h1 h2;rw[rA _ S];exact hy
 | @agg cs l F Fs hs hr hfs hdis =>
  obtain⟨rfl,ho⟩:=hk;refine⟨cs.getD off undef,Fs off,(fun c=>∃j,j≠off/\Fs j c),rfl,?_,fun c hc=>hfs _ c hc,fun c ⟨j,_,I⟩=>hfs j c I,fun c hc ⟨j,Y,I⟩=>hdis _ _ c (Ne.symm Y) hc I,?_,?_⟩
  ·refine hr off _ ?_
   simp only[D.dV,List.getD_eq_getElem?_getD,List.getElem?_eq_getElem ho,Option.getD_some]
  ·intro w' A' y F1' F' hA V hw hy hd ab h1 h2
   refine .agg (fun j c=>if j=off then F1' c else Fs j c) (by simpa using hs) (fun j x W=>?_) (fun j c I=>?_) (fun p q c a6 hp hq=>?_)
   ·by_cases I:j=off
    ·subst I
     rw[List.getElem?_set_self ho] at W;injection W with W
     subst W;simpa using hy
    ·rw[List.getElem?_set_ne (Ne.symm I)] at W
     simp only[if_neg I];exact(hr j x W).mono hA V (fun c hc=>hw c ⟨j,I,hc⟩) fun _ h=>h
   ·split at I
    ·exact h1 c I
    ·rename_i Y;exact h2 c ⟨j,Y,I⟩
   ·split at hp<;>split at hq
    ·omega
    ·rename_i a7;exact hd c hp ⟨q,a7,hq⟩
    ·rename_i a1 _;exact hd c hq ⟨p,a1,hp⟩
    ·exact hdis p q c a6 hp hq
  ·intro a ha;simp[dU] at ha
 | @av cs l F Fs hs hr hfs hdis =>
  obtain⟨rfl,ho⟩:=hk;refine⟨cs.getD off undef,Fs off,(fun c=>∃j,j≠off/\Fs j c),rfl,?_,fun c hc=>hfs _ c hc,fun c ⟨j,_,I⟩=>hfs j c I,fun c hc ⟨j,Y,I⟩=>hdis _ _ c (Ne.symm Y) hc I,?_,?_⟩
  ·refine hr off _ ?_
   simp only[D.dV,List.getD_eq_getElem?_getD,List.getElem?_eq_getElem ho,Option.getD_some]
  ·intro w' A' y F1' F' hA V hw hy hd ab h1 h2
   refine .av (fun j c=>if j=off then F1' c else Fs j c) (by simpa using hs) (fun j x W=>?_) (fun j c I=>?_) (fun p q c a6 hp hq=>?_)
   ·by_cases I:j=off
    ·subst I
     rw[List.getElem?_set_self ho] at W;injection W with W
     subst W;simpa using hy
    ·rw[List.getElem?_set_ne (Ne.symm I)] at W
     simp only[if_neg I];exact(hr j x W).mono hA V (fun c hc=>hw c ⟨j,I,hc⟩) fun _ h=>h
   ·split at I
    ·exact h1 c I
    ·rename_i Y;exact h2 c ⟨j,Y,I⟩
   ·split at hp<;>split at hq
    ·omega
    ·rename_i a7;exact hd c hp ⟨q,a7,hq⟩
    ·rename_i a1 _;exact hd c hq ⟨p,a1,hp⟩
    ·exact hdis p q c a6 hp hq
  ·intro a ha;simp[dU] at ha
 | @ptr b l cs e F Fs hb hs hr hF hfs hdis =>
  obtain⟨rfl,ho⟩:=hk
  have ax:∀(w':World)(A':Nat->Prop)(y:D)(F1' F':Nat->Prop)(Z:Array Value),(∀b,A b->A' b)->(∀b,A b->w'.heap[b]?=w.heap[b]?) ->
    (∀c,(c=b\/∃j,j≠off/\Fs j c)->c≠b->w'.heap[c]?=w.heap[c]?)->w'.heap[b]?=some (.cells Z e (0,0))->Z.size=cs.size->(∀j,j≠off->Z.getD j undef=cs.getD j undef) ->
    aq w' A' (Z.getD off undef) y F1'->(∀c,F1' c->¬(c=b\/∃j,j≠off/\Fs j c)) ->
    (∀b,F1' b->F' b)->(∀c,(c=b\/∃j,j≠off/\Fs j c)->F' c)->aq w' A' (.pointer (some ⟨b,0,none⟩)) ((D.ptr l).dw 0 off y) F':=by
   intro w' A' y F1' F' Z hA V hw bT bF b1 hy hd h1 h2;refine .ptr (fun j c=>if j=off then F1' c else Fs j c) bT (by simpa[bF] using hs) (fun j x W=>?_) (h2 b (.inl rfl)) (fun j c I=>?_) (fun p q c a6 hp hq=>?_)
   ·by_cases I:j=off
    ·subst I
     rw[List.getElem?_set_self ho] at W;injection W with W
     subst W;simpa using hy
    ·rw[List.getElem?_set_ne (Ne.symm I)] at W
     simp only[if_neg I,b1 j I];exact(hr j x W).mono hA V (fun c hc=>hw c (.inr ⟨j,I,hc⟩) (hfs j c hc).1) fun _ h=>h
   ·split at I
    ·exact⟨fun b0=>hd c I (.inl b0),h1 c I⟩
    ·rename_i Y;exact⟨(hfs j c I).1,h2 c (.inr ⟨j,Y,I⟩)⟩
   ·split at hp<;>split at hq
    ·omega
    ·rename_i a7;exact hd c hp (.inr ⟨q,a7,hq⟩)
    ·rename_i a1 _;exact hd c hq (.inr ⟨p,a1,hp⟩)
    ·exact hdis p q c a6 hp hq
  have S:off<cs.size:=by omega
  have b3:l[off]?=some ((D.ptr l).dV 0 off):=by
   simp only[D.dV,List.getD_eq_getElem?_getD,List.getElem?_eq_getElem ho,Option.getD_some]
  refine⟨cs.getD off undef,Fs off,(fun c=>c=b\/∃j,j≠off/\Fs j c),?_,hr _ _ b3,fun c hc=>(hfs _ c hc).2,?_,?_,?_,?_⟩
  ·simp only[mW,dU,Option.bind_some,Nat.zero_add]
   exact fQ hb S
  ·rintro c (rfl | ⟨j,_,I⟩)
   ·exact hF
   ·exact(hfs j c I).2
  ·rintro c hc (rfl | ⟨j,Y,I⟩)
   ·exact(hfs _ c hc).1 rfl
   ·exact hdis _ _ c (Ne.symm Y) hc I
  ·intro w' A' y F1' F' hA V hw hy hd ab h1 h2
   exact ax w' A' y F1' F' cs hA V (fun c hc _=>hw c hc) (by rw[hw b (.inl rfl)];exact hb) rfl (fun _ _=>rfl) hy hd h1 h2
  ·intro a ha
   simp only[dU,Option.some.injEq,Nat.zero_add] at ha;subst ha;refine⟨.inl rfl,rfl,fQ hb S,by simp[World.frozen?,hb],fun u' w' A' y F1' F' hA V hw b2 hy hd ab h1 h2=>?_⟩;refine ax w' A' y F1' F' (cs.setIfInBounds off u') hA V hw (b2.trans (Bv u' hb)) (by simp) (fun j I=>getD_set_ne _ (Ne.symm I)) ?_ hd h1 h2;rw[rA _ S];exact hy
theorem aq.un{w:World}{A:Nat->Prop}{v:Value}{x:D}{F:Nat->Prop}(h:aq w A v x F):x.un=x/\∀i off y,x.fw i off y=x.dw i off y:=by
 cases h<;>exact⟨rfl,fun _ _ _=>rfl⟩
theorem lY{w:World}{A:Nat->Prop}{v:Value}{x:D}{F:Nat->Prop}(h:aq w A v x F)(i off:Nat) :
  x.aY i off=x.dV i off/\(x.lW i off↔x.fg i off)/\dI v x i off=dU v x i off/\cG w v x i off=mW w v x i off:=by
 obtain⟨h1,_⟩:=h.un;unfold D.aY D.lW dI cG;rw[h1];exact⟨rfl,Iff.rfl,rfl,rfl⟩
theorem ZQ(x:D)(i off:Nat)(y:D):(x.dw i off y).isAgg=x.isAgg:=by cases x<;>rfl
theorem z7{x:D}{i off:Nat}{y:D}(hk:x.fg i off)(Z:∀z l,(x=.slice z l\/x=.row z l)->∀e∈l,e.cells.length=z.cells.length)(S:y.isAgg=(x.dV i off).isAgg):x.iW i y:=by
 have key:∀(z:D)(l:List D),(∀e∈l,e.cells.length=z.cells.length)->i<l.length->off<z.cells.length->y.isAgg=((l.getD i z).cells.getD off .dead).isAgg->kS (l.getD i z) y:=by
  intro z l Y h1 h2 S;have W:l.getD i z=l[i]:=by rw[List.getD_eq_getElem?_getD,List.getElem?_eq_getElem h1];rfl
  have V:=Y l[i] (List.getElem_mem h1);rw[<-W] at V;generalize l.getD i z=e at V S|-
  by_cases he:e.isAgg=true
  ·exact .inl he
  ·refine .inr ?_
   have I:e.isAgg=false:=by simpa using he
   rw[S,D.cells_one I];rw[D.cells_one I] at V;simp only[List.length_cons,List.length_nil] at V;have:off=0:=by omega
   subst this;exact I
 cases x<;>try trivial
 ·exact key _ _ (Z _ _ (.inl rfl)) hk.1 hk.2 S
 ·exact key _ _ (Z _ _ (.inr rfl)) hk.1 hk.2 S
theorem aq.oT{w:World}{A:Nat->Prop}{v:Value}{x:D}{F:Nat->Prop}(h:aq w A v x F):∀z l,(x=.slice z l\/x=.row z l)->∀e∈l,e.cells.length=z.cells.length:=by
 intro z l I e he;cases h with
 | slice Fs hb S hc hm hz W V hr hF Z Y =>
  rcases I with I | I<;>cases I;rw[W];exact V e he
 | nil=>rcases I with I | I<;>cases I;cases he
 | _=>rcases I with I | I<;>cases I
theorem Bt{x:D}{p:Path}(hp:p≠[])(y:D)(I:x.un=x):(x.setAt p y).isAgg=x.isAgg:=by
 cases p with
 | nil=>exact absurd rfl hp
 | cons s p =>
  obtain⟨i,off⟩:=s;simp only[D.setAt];cases x<;>simp only[D.un] at I<;>first | rfl | (simp only[D.fw];exact ZQ _ _ _ _)
def dY(x:D):Path->D->Prop
 | [],_=>True
 | [(i,_)],y=>x.un.iW i y
 | (i,off)::p,y=>dY (x.aY i off) p y
theorem aq.splitAt{w:World}{A:Nat->Prop}:∀(p:Path){v:Value}{x:D}{F:Nat->Prop},aq w A v x F->x.has p ->
  ∃(u:Value)(F1 F2:Nat->Prop),aR w v x p=some u/\aq w A u (x.at p) F1/\(∀b,F1 b->F b)/\(∀b,F2 b->F b)/\(∀b,F1 b->¬F2 b) /\
   (∀(w':World)(A':Nat->Prop)(y:D)(F1' F':Nat->Prop),(∀b,A b->A' b)->(∀b,A b->w'.heap[b]?=w.heap[b]?)->(∀b,F2 b->w'.heap[b]?=w.heap[b]?)->aq w' A' u y F1'->(∀b,F1' b->¬F2 b) ->
     dY x p y->(∀b,F1' b->F' b)->(∀b,F2 b->F' b)->aq w' A' v (x.setAt p y) F') /\
   (∀a,aJ w v x p=some a->F2 a.block/\a.spot=none/\w.cell? a=some u/\w.frozen? a=false /\
     ∀(u':Value)(w':World)(A':Nat->Prop)(y:D)(F1' F':Nat->Prop),(∀b,A b->A' b)->(∀b,A b->w'.heap[b]?=w.heap[b]?)->(∀b,F2 b->b≠a.block->w'.heap[b]?=w.heap[b]?) ->
      w'.heap[a.block]?=(w.setCell a u').heap[a.block]?->aq w' A' u' y F1'->(∀b,F1' b->¬F2 b) ->
      dY x p y->(∀b,F1' b->F' b)->(∀b,F2 b->F' b)->aq w' A' v (x.setAt p y) F')
 | [],v,x,F,h,_=>by
  refine⟨v,F,fun _=>False,rfl,h,fun _ h=>h,fun _ h=>h.elim,fun _ _ h=>h,?_,?_⟩
  ·intro w' A' y F1' F' _ _ _ Y _ _ h1 _
   exact Y.mono (fun _ h=>h) (fun _ _=>rfl) (fun _ _=>rfl) h1
  ·intro a ha;simp[aJ] at ha
 | (i,off)::p,v,x,F,h,hp=>by
  obtain⟨hk,a7⟩:=hp;obtain⟨e1,e2,e3,e4⟩:=lY h i off;obtain⟨hu,ao⟩:=h.un;obtain⟨u,F1,F2,g1,g2,g3,g4,g5,g6,g7⟩:=h.split (e2.1 hk);rw[<-e1] at g2;obtain⟨u',G1,G2,i1,i2,i3,i4,i5,i6,i7⟩:=aq.splitAt p g2 a7
  have ag:∀y,dY x ((i,off)::p) y->x.iW i ((x.aY i off).setAt p y)/\dY (x.aY i off) p y:=by
   intro y Y;cases p with
   | nil=>simp only[dY,hu] at Y;exact⟨Y,trivial⟩
   | cons s p =>
    obtain⟨bF,bg⟩:=s;refine⟨z7 (e2.1 hk) h.oT ?_,Y⟩;rw[Bt (by simp) y g2.un.1,e1]
  have ab:∀b,G1 b->¬(G2 b\/F2 b):=fun b I hh=>hh.elim (i5 b I) (g5 b (i3 b I))
  refine⟨u',G1,fun b=>G2 b\/F2 b,?_,i2,fun b I=>g3 b (i3 b I),fun b I=>I.elim (fun h=>g3 b (i4 b h)) (g4 b),ab,?_,?_⟩
  ·simp only[aR,e4,g1,Option.bind_some];exact i1
  ·intro w' A' y F1' F' hA S hw Y hd V h1 Z
   obtain⟨fI,jn⟩:=ag y V;have W:=i6 w' A' y F1' (fun b=>F1' b\/G2 b) hA S (fun b I=>hw b (.inl I)) Y (fun b I hg=>hd b I (.inl hg)) jn (fun _ h=>.inl h) (fun _ h=>.inr h);simp only[D.setAt,ao]
   exact g6 w' A' _ _ F' hA S (fun b I=>hw b (.inr I)) W (fun b I hf=>I.elim (fun h=>hd b h (.inr hf)) fun h=>g5 b (i4 b h) hf) fI
    (fun b I=>I.elim (h1 b) fun h=>Z b (.inl h)) (fun b I=>Z b (.inr I))
  ·intro a ha
   cases p with
   | nil =>
    simp only[aJ,e3] at ha;obtain⟨j1,j2,j3,a1,j4⟩:=g7 a ha;simp only[aR,Option.some.injEq] at i1;subst i1;refine⟨.inr j1,j2,j3,a1,fun u' w' A' y F1' F' hA S hw ax Y hd V h1 Z=>?_⟩;simp only[D.setAt,ao];exact j4 u' w' A' y F1' F' hA S (fun b I ad=>hw b (.inr I) ad) ax Y (fun b I hf=>hd b I (.inr hf)) (ag y V).1 h1 (fun b I=>Z b (.inr I))
   | cons s p =>
    have a6:aJ w u (x.aY i off) (s::p)=some a:=by
     obtain⟨i',off'⟩:=s;cases p<;>simpa only[aJ,e4,g1,Option.bind_some] using ha
    obtain⟨j1,j2,j3,a1,j4⟩:=i7 a a6;refine⟨.inl j1,j2,j3,a1,fun a8 w' A' y F1' F' hA S hw ax Y hd V h1 Z=>?_⟩;obtain⟨fI,jn⟩:=ag y V;have W:=j4 a8 w' A' y F1' (fun b=>F1' b\/G2 b) hA S (fun b I ad=>hw b (.inl I) ad) ax Y (fun b I hg=>hd b I (.inl hg)) jn (fun _ h=>.inl h) (fun _ h=>.inr h);simp only[D.setAt,ao]
    exact g6 w' A' _ _ F' hA S (fun b I=>hw b (.inr I) (by rintro rfl;exact g5 _ (i4 _ j1) I)) W (fun b I hf=>I.elim (fun h=>hd b h (.inr hf)) fun h=>g5 b (i4 b h) hf) fI
     (fun b I=>I.elim (h1 b) fun h=>Z b (.inl h)) (fun b I=>Z b (.inr I))
end Go.D3
namespace Go.D3
open Go
def D.isObj:D->Bool
 | .o _ | .box _ | .row _ _=>true
 | _=>false
def D.aZ:D->Path->Prop
 | .o x,p=>x.has p
 | .box _,[]=>True
 | .box l,(i,off)::p=>i=0/\off<l.length/\match p with
  | []=>True
  | s::p=>match l.getD off .dead with
   | .o y=>y.has (s::p)
   | _=>False
 | .row _ _,p=>p=[]
 | _,_=>False
def bD:D->Path->Bool
 | .box _,[_]=>true
 | _,_=>false
def D.iT:D->Bool
 | .o _=>true
 | _=>false
def D.ew(c:D)(p:Path):Prop:=c.aZ p/\(bD c p=true->(c.at p).iT=true)
def sJ(w:World)(ct:Nat->D)(vl:Nat->Value)(v:Value)(k:Nat)(p:Path):Prop :=
 (ct k).aZ p/\∃a,aJ w (vl k) (ct k) p=some a/\v=.pointer (some a)
def Xn(v:Value):Prop:=(∃q n c,v=.slice q n c)\/(∃r,v=.map r)\/∃b,v=.pointer (some ⟨b,0,none⟩)
def ai(w:World)(ct:Nat->D)(vl:Nat->Value)(v:Value):D->Prop
 | .sub k p=>(ct k).ew p/\aR w (vl k) (ct k) p=some v/\Xn v
 | .aG k p=>sJ w ct vl v k p
 | .pre k p n=>∃q m c,((ct k).ew p/\aR w (vl k) (ct k) p=some (.slice q m c))/\n<=m/\v=.slice q n c
 | _=>False
inductive Pl(w:World)(A:Nat->Prop)(R:Value->D->Prop):Value->D->Prop
 | rd {v:Value} {d:D} (h:Rd w A v d):Pl w A R v d
 | ref {v:Value} {d:D} (h:R v d):Pl w A R v d
 | agg {cs:Array Value} {l:List D} (hs:cs.size=l.length) (hr:∀j x,l[j]?=some x->Pl w A R (cs.getD j undef) x):Pl w A R (.agg cs) (.agg l)
 | av {cs:Array Value} {l:List D} (hs:cs.size=l.length) (hr:∀j x,l[j]?=some x->Pl w A R (cs.getD j undef) x):Pl w A R (.tuple cs) (.av l)
 | fn {f:FuncId} {cs:Array Value} {l:List D} (hs:cs.size=l.length) (hr:∀j x,l[j]?=some x->Pl w A R (cs.getD j undef) x):Pl w A R (.func (.func f) #[] cs) (.fn f l)
def D.pc:D->Bool
 | .agg _ | .av _ | .box _ | .row _ _ | .when _ _ | .o _ | .vw _ | .pre _ _ _=>false
 | _=>true
def ca(w:World)(A:Nat->Prop)(R:Value->D->Prop)(v:Value)(F:Nat->Prop):D->Prop
 | .o x=>aq w A v x F
 | .box _ | .row _ _ | .when _ _ | .agg _ | .av _ | .vw _ | .pre _ _ _=>False
 | c=>Pl w A R v c
def xJ(w:World)(A:Nat->Prop)(R:Value->D->Prop)(v:Value)(F:Nat->Prop)(l:List D):Prop :=
 0<l.length/\∃(b:Nat)(cs:Array Value)(e:TypeId)(Fs:Nat->Nat->Prop),v=.pointer (some ⟨b,0,none⟩)/\w.heap[b]?=some (.cells cs e (0,0))/\cs.size=l.length /\
  (∀j c,l[j]?=some c->ca w A R (cs.getD j undef) (Fs j) c)/\F b/\(∀j c,Fs j c->c≠b/\F c)/\(∀i j c,i≠j->Fs i c->¬Fs j c)
def NN(w:World)(A:Nat->Prop)(R:Value->D->Prop)(v:Value)(F:Nat->Prop)(z:D)(l:List D):Prop :=
 ∃(b sz:Nat)(cs:Array Value)(e:TypeId),v=.slice (some ⟨b,0,none⟩) l.length l.length/\w.heap[b]?=some (.cells cs e (0,0))/\cs.size=l.length*sz/\l.length<=maxLen /\
  0<sz/\z.cells.length=sz/\(∀x∈l,x.cells.length=sz) /\
  (∀j c,cellAt l sz j=some c->Pl w A R (cs.getD j undef) c/\c.pc=true)/\F b
def aN(w:World)(A:Nat->Prop)(R:Value->D->Prop)(v:Value)(F:Nat->Prop):D->Prop
 | .o x=>aq w A v x F
 | .box l=>xJ w A R v F l
 | .row z l=>NN w A R v F z l
 | .when g c=>(g=true->Pl w A R v c)/\(g=false->v=undef)
 | c=>Pl w A R v c
mutual
def D.refs(Q:D->Prop):D->Prop
 | .sub k p=>Q (.sub k p)
 | .aG k p=>Q (.aG k p)
 | .pre k p _=>Q (.sub k p)
 | .fn _ caps=>cu Q caps
 | .agg l=>cu Q l
 | .av l=>cu Q l
 | .box l=>cu Q l
 | .row _ l=>cu Q l
 | .when _ x=>x.refs Q
 | _=>True
def cu(Q:D->Prop):List D->Prop
 | []=>True
 | x::r=>x.refs Q/\cu Q r
end
mutual
def D.kill(q:D->Bool):D->D
 | .sub k p=>if q (.sub k p) then .dead else .sub k p
 | .aG k p=>if q (.aG k p) then .dead else .aG k p
 | .pre k p n=>if q (.sub k p) then .dead else .pre k p n
 | .fn f caps=>.fn f (ey q caps)
 | .agg l=>.agg (ey q l)
 | .av l=>.av (ey q l)
 | .box l=>.box (ey q l)
 | .row z l=>.row z (ey q l)
 | .when g x=>.when g (x.kill q)
 | x=>x
def ey(q:D->Bool):List D->List D
 | []=>[]
 | x::r=>x.kill q::ey q r
end
mutual
def D.aD(σ:Nat->Nat):D->D
 | .sub k p=>.sub (σ k) p
 | .aG k p=>.aG (σ k) p
 | .pre k p n=>.pre (σ k) p n
 | .fn f caps=>.fn f (eS σ caps)
 | .agg l=>.agg (eS σ l)
 | .av l=>.av (eS σ l)
 | .box l=>.box (eS σ l)
 | .row z l=>.row z (eS σ l)
 | .when g x=>.when g (x.aD σ)
 | x=>x
def eS(σ:Nat->Nat):List D->List D
 | []=>[]
 | x::r=>x.aD σ::eS σ r
end
theorem bG{Q:D->Prop}:∀{l:List D},cu Q l↔∀x∈l,x.refs Q
 | []=>by simp[cu]
 | x::r=>by simp only[cu,bG (l:=r),List.mem_cons,forall_eq_or_imp]
theorem dL(q:D->Bool):∀l,ey q l=l.map (D.kill q)
 | []=>rfl
 | x::r=>by rw[ey,dL q r,List.map_cons]
theorem D.ind{M:D->Prop}(int:∀k n,M (.int k n))(bool:∀b,M (.bool b))(str:∀s,M (.str s))(slice:∀z l,M z->(∀x∈l,M x)->M (.slice z l))
  (agg:∀l,(∀x∈l,M x)->M (.agg l)) (av:∀l,(∀x∈l,M x)->M (.av l)) (ptr:∀l,(∀x∈l,M x)->M (.ptr l)) (bd:M .bd) (fn:∀f caps,(∀x∈caps,M x)->M (.fn f caps))
  (vw:∀x,M x->M (.vw x)) (o:∀x,M x->M (.o x)) (box:∀l,(∀x∈l,M x)->M (.box l)) (row:∀z l,M z->(∀x∈l,M x)->M (.row z l))
  (sub:∀k p,M (.sub k p)) (aG:∀k p,M (.aG k p)) (pre:∀k p n,M (.pre k p n)) (when:∀g x,M x->M (.when g x)) (aH:∀z,M z->M (.aH z)) (dead:M .dead)
  (mp:∀ks vs,(∀x∈ks,M x)->(∀x∈vs,M x)->M (.mp ks vs)) (bS:M .bS) (bE:∀t x,M x->M (.bE t x)) (bz:M .bz) (b6:∀s p,M (.b6 s p)) (ia:∀n,M (.ia n)) (sb:∀T e s,M (.sb T e s)):∀d,M d:=fun d =>
 D.rec (motive_1:=M) (motive_2:=fun l=>∀x∈l,M x) int bool str slice agg av ptr bd fn vw o box row sub aG pre when aH dead mp bS bE bz b6 ia sb (by simp) (fun x r S I=>by simp;exact⟨S,I⟩) d
section
variable{w w':World}{A A':Nat->Prop}{R R':Value->D->Prop}{v:Value}{F F':Nat->Prop}
theorem Pl.mono{Q:D->Prop}{c:D}(h:Pl w A R v c):(∀b,A b->A' b)->(∀b,A b->w'.heap[b]?=w.heap[b]?)->c.refs Q ->
  (∀v d,d.refs Q->R v d->R' v d)->Pl w' A' R' v c:=by
 induction h with
 | rd h=>exact fun hA hw _ _=>.rd (h.mono hA hw)
 | ref h=>exact fun _ _ V S=>.ref (S _ _ V h)
 | agg W _ Y=>exact fun hA hw V S=>.agg W fun j x I=>Y j x I hA hw (bG.1 V x (List.mem_of_getElem? I)) S
 | av W _ Y=>exact fun hA hw V S=>.av W fun j x I=>Y j x I hA hw (bG.1 V x (List.mem_of_getElem? I)) S
 | fn W _ Y=>exact fun hA hw V S=>.fn W fun j x I=>Y j x I hA hw (bG.1 V x (List.mem_of_getElem? I)) S
theorem ca.mono{Q:D->Prop}{c:D}(h:ca w A R v F c)(hA:∀b,A b->A' b)(I:∀b,A b->w'.heap[b]?=w.heap[b]?)(S:∀b,F b->w'.heap[b]?=w.heap[b]?)(hF:∀b,F b->F' b)
  (W:c.refs Q) (V:∀v d,d.refs Q->R v d->R' v d):ca w' A' R' v F' c:=by
 cases c<;>first | exact Pl.mono h hA I W V | exact h.elim | exact aq.mono h hA I S hF
theorem Xp{Q:D->Prop}{x c:D}(h:x.refs Q)(I:c∈x.cells):c.refs Q:=by
 cases x<;>simp only[D.cells,List.mem_singleton] at I<;>first | (subst I;exact h) | exact bG.1 h c I
theorem I9{Q:D->Prop}{l:List D}{sz j:Nat}{c:D}(h:∀x∈l,x.refs Q)(I:cellAt l sz j=some c):c.refs Q:=by
 unfold cellAt at I;cases hL:l[j / sz]? with
 | none=>simp[hL] at I
 | some d =>
  rw[hL,Option.bind_some] at I;exact Xp (h d (List.mem_of_getElem? hL)) (List.mem_of_getElem? I)
theorem aN.mono{Q:D->Prop}{c:D}:∀{F F':Nat->Prop},aN w A R v F c->(∀b,A b->A' b)->(∀b,A b->w'.heap[b]?=w.heap[b]?)->(∀b,F b->w'.heap[b]?=w.heap[b]?)->(∀b,F b->F' b) ->
  c.refs Q->(∀v d,d.refs Q->R v d->R' v d)->aN w' A' R' v F' c:=by
 induction c using D.ind with
 | o x _=>exact fun h hA I S hF _ _=>aq.mono h hA I S hF
 | box l _ =>
  rintro F F' ⟨h0,b,cs,e,Fs,h1,h2,h3,h4,h5,h6,h7⟩ hA I S hF V Y;replace V:=bG.1 V
  exact⟨h0,b,cs,e,Fs,h1,(S b h5).trans h2,h3,fun j c W=>(h4 j c W).mono hA I (fun d hd=>S d (h6 j d hd).2) (fun _ h=>h) (V c (List.mem_of_getElem? W)) Y,hF b h5,
   fun j c W=>⟨(h6 j c W).1,hF c (h6 j c W).2⟩,h7⟩
 | row z l _ _ =>
  rintro F F' ⟨b,sz,cs,e,h1,h2,h3,ab,Z,ad,ag,h4,h5⟩ hA I S hF V Y;replace V:=bG.1 V;exact⟨b,sz,cs,e,h1,(S b h5).trans h2,h3,ab,Z,ad,ag,fun j c W=>⟨(h4 j c W).1.mono hA I (I9 V W) Y,(h4 j c W).2⟩,hF b h5⟩
 | when g c ih =>
  exact fun h hA I _ _ V Y=>⟨fun hg=>Pl.mono (h.1 hg) hA I V Y,h.2⟩
 | _=>exact fun h hA I _ _ V Y=>Pl.mono h hA I V Y
theorem jk(q:D->Bool)(c:D):(c.kill q).refs fun d=>q d=false:=by
 induction c using D.ind with
 | sub k p=>simp only[D.kill];split<;>simp_all[D.refs]
 | aG k p=>simp only[D.kill];split<;>simp_all[D.refs]
 | pre k p n=>simp only[D.kill];split<;>simp_all[D.refs]
 | agg l I | av l I | box l I | fn _ l I=>simp only[D.kill,D.refs,bG,dL,List.mem_map];rintro _ ⟨y,S,rfl⟩;exact I y S
 | row z l _ I=>simp only[D.kill,D.refs,bG,dL,List.mem_map];rintro _ ⟨y,S,rfl⟩;exact I y S
 | when g x I=>exact I
 | _=>trivial
theorem Pl.dead:Pl w A R v .dead:=.rd .dead
theorem Rd.kill{q:D->Bool}{d:D}(h:Rd w A v d):Rd w A v (d.kill q):=by
 induction h with
 | agg W _ V =>
  refine .agg (by simpa[dL] using W) fun j x S=>?_
  rw[dL,List.getElem?_map,Option.map_eq_some_iff] at S;obtain⟨y,Y,rfl⟩:=S;exact V j y Y
 | av W _ V =>
  refine .av (by simpa[dL] using W) fun j x S=>?_
  rw[dL,List.getElem?_map,Option.map_eq_some_iff] at S;obtain⟨y,Y,rfl⟩:=S;exact V j y Y
 | int h=>exact .int h
 | bool=>exact .bool
 | str h=>exact .str h
 | nil=>exact .nil
 | empty h=>exact .empty h
 | slice hA hc hm hz ad ab vs I hr V=>exact .slice hA hc hm hz ad ab vs I hr
 | ptr hA vs I hr V=>exact .ptr hA vs I hr
 | bd=>exact .bd
 | fn W _ V =>
  refine .fn (by simpa[dL] using W) fun j x S=>?_
  rw[dL,List.getElem?_map,Option.map_eq_some_iff] at S;obtain⟨y,Y,rfl⟩:=S;exact V j y Y
 | vw h=>exact .vw h
 | o h=>exact .o h
 | aH=>exact .aH
 | dead=>exact .dead
 | mp hA Z hE=>exact .mp hA Z hE
 | bS=>exact .bS
 | bE h V=>exact .bE h
 | bz=>exact .bz
 | b6 hA Z W=>exact .b6 hA Z W
 | ia hA hc=>exact .ia hA hc
 | sb hA hg h=>exact .sb hA hg h
theorem Pl.kill{q:D->Bool}{c:D}(h:Pl w A R v c)(Y:∀v d,R v d->(∃k p,d=.sub k p)\/(∃k p,d=.aG k p)\/(∃k p n,d=.pre k p n)):Pl w A R v (c.kill q):=by
 induction h with
 | rd h=>exact .rd h.kill
 | @ref v d h =>
  rcases Y v d h with⟨k,p,rfl⟩ | ⟨k,p,rfl⟩ | ⟨k,p,n,rfl⟩
  ·simp only[D.kill];split
   ·exact .dead
   ·exact .ref h
  ·simp only[D.kill];split
   ·exact .dead
   ·exact .ref h
  ·simp only[D.kill];split
   ·exact .dead
   ·exact .ref h
 | agg S _ W =>
  refine .agg (by simpa[dL] using S) fun j x I=>?_
  rw[dL] at I;rw[List.getElem?_map,Option.map_eq_some_iff] at I;obtain⟨y,V,rfl⟩:=I;exact W j y V
 | av S _ W =>
  refine .av (by simpa[dL] using S) fun j x I=>?_
  rw[dL] at I;rw[List.getElem?_map,Option.map_eq_some_iff] at I;obtain⟨y,V,rfl⟩:=I;exact W j y V
 | fn S _ W =>
  refine .fn (by simpa[dL] using S) fun j x I=>?_
  rw[dL] at I;rw[List.getElem?_map,Option.map_eq_some_iff] at I;obtain⟨y,V,rfl⟩:=I;exact W j y V
theorem ai.form{ct:Nat->D}{vl:Nat->Value}(v:Value)(d:D)(h:ai w ct vl v d):(∃k p,d=.sub k p)\/(∃k p,d=.aG k p)\/(∃k p n,d=.pre k p n):=by
 cases d<;>first | exact .inl ⟨_,_,rfl⟩ | exact .inr (.inl ⟨_,_,rfl⟩) | exact .inr (.inr ⟨_,_,_,rfl⟩) | exact h.elim
theorem ca.kill{q:D->Bool}{c:D}(h:ca w A R v F c)(I:∀v d,R v d->(∃k p,d=.sub k p)\/(∃k p,d=.aG k p)\/(∃k p n,d=.pre k p n)):ca w A R v F (c.kill q):=by
 cases c
 case sub k p=>have:=Pl.kill (q:=q) h I;simp only[D.kill] at this|-;split<;>simp_all[ca]
 case aG k p=>have:=Pl.kill (q:=q) h I;simp only[D.kill] at this|-;split<;>simp_all[ca]
 case fn k p=>have:=Pl.kill (q:=q) h I;simp only[D.kill] at this|-;exact this
 case o x=>exact h
 all_goals first | exact h | exact h.elim
theorem G8(q:D->Bool)(x:D):(x.kill q).cells=x.cells.map (D.kill q):=by
 cases x<;>first | rfl | (simp only[D.kill,D.cells,List.map_cons,List.map_nil,dL];done) | (simp only[D.kill,D.cells,List.map_cons,List.map_nil];by_cases h:q (.sub ‹_› ‹_›)=true<;>simp[h];done) | (simp only[D.kill];split<;>rename_i h<;>simp[D.cells,D.kill,h])
theorem Re(q:D->Bool){c:D}(h:c.pc=true):(c.kill q).pc=true:=by
 cases c<;>first | exact h | (simp only[D.kill];split<;>rfl) | (simp[D.pc] at h)
theorem O9(q:D->Bool)(l:List D)(sz j:Nat):cellAt (l.map (D.kill q)) sz j=(cellAt l sz j).map (D.kill q):=by
 unfold cellAt;rw[List.getElem?_map];cases l[j / sz]? with
 | none=>rfl
 | some d=>simp only[Option.map_some,Option.bind_some,G8,List.getElem?_map]
theorem aN.kill{q:D->Bool}{c:D}(I:∀v d,R v d->(∃k p,d=.sub k p)\/(∃k p,d=.aG k p)\/(∃k p n,d=.pre k p n)):∀{F:Nat->Prop},aN w A R v F c->aN w A R v F (c.kill q):=by
 induction c using D.ind with
 | o x _=>exact fun h=>h
 | box l _ =>
  rintro F ⟨h0,b,cs,e,Fs,h1,Z,h3,Y,h5,h6,h7⟩;rw[D.kill,dL];refine⟨by simpa using h0,b,cs,e,Fs,h1,Z,by simpa using h3,fun j c W=>?_,h5,h6,h7⟩;rw[List.getElem?_map,Option.map_eq_some_iff] at W;obtain⟨y,S,rfl⟩:=W;exact(Y j y S).kill I
 | row z l _ _ =>
  rintro F ⟨b,sz,cs,e,h1,Z,h3,ab,V,ad,ag,Y,h5⟩;rw[D.kill,dL];refine⟨b,sz,cs,e,by simpa using h1,Z,by simpa using h3,by simpa using ab,V,ad,fun x hx=>?_,fun j c W=>?_,h5⟩
  ·obtain⟨y,S,rfl⟩:=List.mem_map.1 hx
   rw[G8,List.length_map];exact ag y S
  ·rw[O9,Option.map_eq_some_iff] at W
   obtain⟨y,S,rfl⟩:=W;exact⟨(Y j y S).1.kill I,Re _ (Y j y S).2⟩
 | when g c ih=>exact fun h=>⟨fun hg=>Pl.kill (h.1 hg) I,h.2⟩
 | sub k p=>intro F h;have:=Pl.kill (q:=q) h I;simp only[D.kill] at this|-;split<;>simp_all[aN]
 | aG k p=>intro F h;have:=Pl.kill (q:=q) h I;simp only[D.kill] at this|-;split<;>simp_all[aN]
 | pre k p n=>intro F h;have:=Pl.kill (q:=q) h I;simp only[D.kill] at this|-;split<;>simp_all[aN]
 | fn k p=>intro F h;have:=Pl.kill (q:=q) h I;simp only[D.kill] at this|-;exact this
 | _=>exact fun h=>Pl.kill (q:=q) h I
end
end Go.D3
namespace Go.D3
open Go
class Mode where
 mono:Bool
def c6[Mode](w w':World):Prop:=w'.output=w.output/\(Mode.mono=true->w.drawn<=w'.drawn)
theorem c6.refl[Mode](w:World):c6 w w:=⟨rfl,fun _=>Nat.le_refl _⟩
theorem c6.trans[Mode]{a b c:World}(h:c6 b c)(g:c6 a b):c6 a c:=⟨h.1.trans g.1,fun m=>Nat.le_trans (g.2 m) (h.2 m)⟩
theorem c6.le[Mode]{w w':World}(h:w'.output=w.output)(d:w.drawn<=w'.drawn):c6 w w':=⟨h,fun _=>d⟩
theorem c6.of[Mode]{w w':World}(h:w'.output=w.output)(d:w'.drawn=w.drawn):c6 w w':=⟨h,fun _=>Nat.le_of_eq d.symm⟩
structure Ctx where
 w0:World
 F0:Nat->Prop
 A0:Nat->Prop
 gv:Nat->Value
 hA:∀b,A0 b->b<w0.heap.size/\¬F0 b
 hg:ik w0 A0
 yE:List Deferred
def ak(cx:Ctx)(fp:Nat->Nat->Prop)(G:Nat->Prop)(w:World)(b:Nat):Prop:=(b<w.heap.size/\(b<cx.w0.heap.size->cx.A0 b))/\¬G b/\∀k,¬fp k b
structure Hp[Mode](cx:Ctx)(ct:Nat->D)(vl:Nat->Value)(fp:Nat->Nat->Prop)(G:Nat->Prop)(w:World):Prop where
 ok:∀k,aN w (ak cx fp G w) (ai w ct vl) (vl k) (fp k) (ct k)
 cz:∀j k,j≠k->∀b,fp j b->¬fp k b
 cK:∀k b,fp k b->¬G b
 emp:∀k,(ct k).isObj=false->∀b,¬fp k b
 lt:∀k b,fp k b->b<w.heap.size/\(cx.F0 b\/cx.w0.heap.size<=b)
 cY:∀b,G b->b<w.heap.size/\(cx.F0 b\/cx.w0.heap.size<=b)
 size:cx.w0.heap.size<=w.heap.size
 same:∀b,b<cx.w0.heap.size->¬cx.F0 b->w.heap[b]?=cx.w0.heap[b]?
 os:w.os=cx.w0.os
 tape:w.tape=cx.w0.tape
 output:c6 cx.w0 w
theorem Hp.gl[Mode]{cx:Ctx}{ct:Nat->D}{vl:Nat->Value}{fp:Nat->Nat->Prop}{G:Nat->Prop}{w:World}(h:Hp cx ct vl fp G w):ik w (ak cx fp G w):=by
 refine cx.hg.mono (fun b I=>?_) fun b I=>h.same b (cx.hA b I).1 (cx.hA b I).2
 obtain⟨h1,S⟩:=cx.hA b I;have:=h.size;exact⟨⟨by omega,fun _=>I⟩,fun hg=>(h.cY b hg).2.elim S (by omega),fun k hk=>(h.lt k b hk).2.elim S (by omega)⟩
def az{α:Type}(f:Nat->α)(k:Nat)(x:α):Nat->α:=fun j=>if j=k then x else f j
theorem bc{α:Type}(f:Nat->α)(k:Nat)(x:α):az f k x k=x:=by simp[az]
theorem aI{α:Type}(f:Nat->α){j k:Nat}(x:α)(h:j≠k):az f k x j=f j:=by simp[az,h]
theorem Ed{w w':World}{A:Nat->Prop}:∀(p:Path){v:Value}{x:D}{F:Nat->Prop},aq w A v x F->x.has p->(∀b,F b->w'.heap[b]?=w.heap[b]?) ->
  aR w' v x p=aR w v x p/\aJ w' v x p=aJ w v x p
 | [],v,x,F,h,_,_=>⟨rfl,rfl⟩
 | (i,off)::p,v,x,F,h,hp,hw=>by
  obtain⟨hk,S⟩:=hp;obtain⟨Y,V,e3,Z⟩:=lY h i off;obtain⟨u,F1,F2,g1,g2,g3,g4,g5,g6,g7⟩:=h.split (V.1 hk)
  have I:cG w' v x i off=some u:=by
   obtain⟨hu,_⟩:=h.un;unfold cG;rw[hu];cases x<;>try exact(V.1 hk).elim
   all_goals first
    | exact g1
    | (simp only[mW] at g1|-
       generalize ha:dU v _ i off=a at g1|-
       cases a with
       | none=>simp at g1
       | some a =>
        obtain⟨j1,W,j3,_⟩:=g7 a ha;simp only[Option.bind_some] at g1|-
        rw[<-g1];obtain⟨ab,ao,as⟩:=a;simp only at W;cases as with
        | some _=>simp at W
        | none=>exact cell_of_heap (hw _ (g4 _ j1)))
  rw[<-Y] at g2;obtain⟨i1,i2⟩:=Ed p g2 S fun b hb=>hw b (g3 b hb)
  rw[<-Z] at g1;refine⟨by simp only[aR,I,g1,Option.bind_some];exact i1,?_⟩;cases p with
  | nil=>rfl
  | cons s p=>simp only[aJ,I,g1,Option.bind_some];exact i2
theorem iG{w:World}{A:Nat->Prop}{v:Value}{x:D}{F:Nat->Prop}(h:aq w A v x F)(w':World)(p:Path):aR w' v (.o x) p=aR w' v x p/\aJ w' v (.o x) p=aJ w' v x p:=by
 obtain⟨hu,_⟩:=h.un;cases p with
 | nil=>exact⟨rfl,rfl⟩
 | cons s p =>
  obtain⟨i,off⟩:=s;have I:cG w' v (.o x) i off=cG w' v x i off:=by unfold cG;rw[hu];rfl
  have S:D.aY (.o x) i off=x.aY i off:=by unfold D.aY;rw[hu];rfl
  have V:dI v (.o x) i off=dI v x i off:=by unfold dI;rw[hu];rfl
  refine⟨by simp only[aR,I,S],?_⟩;cases p with
  | nil=>simp only[aJ,V]
  | cons t p=>simp only[aJ,I,S]
theorem ig{w w':World}{A:Nat->Prop}{R:Value->D->Prop}{v:Value}{c:D}{F:Nat->Prop}{p:Path}(h:aN w A R v F c)(hp:c.aZ p)(hw:∀b,F b->w'.heap[b]?=w.heap[b]?) :
  aR w' v c p=aR w v c p/\aJ w' v c p=aJ w v c p:=by
 cases c<;>try exact hp.elim
 case o x =>
  obtain⟨Y,a2⟩:=iG h w p;obtain⟨Z,b2⟩:=iG h w' p;obtain⟨c1,c2⟩:=Ed p h hp hw;exact⟨by rw[Y,Z,c1],by rw[a2,b2,c2]⟩
 case row z l=>simp only[D.aZ] at hp;subst hp;exact⟨rfl,rfl⟩
 case box l =>
  cases p with
  | nil=>exact⟨rfl,rfl⟩
  | cons s p =>
   obtain⟨i,off⟩:=s;obtain⟨_,b,cs,e,Fs,h1,h2,h3,h4,h5,h6,h7⟩:=h;obtain⟨rfl,ho,hp⟩:=hp;subst h1
   have V:∀I,I.heap[b]?=w.heap[b]?->cG I (.pointer (some ⟨b,0,none⟩)) (.box l) 0 off=some (cs.getD off undef):=by
    intro I hb;show I.cell? ⟨b,0+off,none⟩=_;rw[Nat.zero_add];exact fQ (hb.trans h2) (by omega)
   have e1:=V w rfl;have e2:=V w' (hw b h5);cases p with
   | nil=>exact⟨by simp only[aR,e1,e2],rfl⟩
   | cons t p =>
    have hk:D.aY (.box l) 0 off=l.getD off .dead:=rfl;simp only at hp;split at hp
    ·rename_i y hy
     have W:l[off]?=some (.o y):=by
      rw[List.getElem?_eq_getElem ho];rw[List.getD_eq_getElem?_getD,List.getElem?_eq_getElem ho] at hy;simpa using hy
     have S:=h4 off _ W;simp only[ca] at S;obtain⟨Y,a2⟩:=iG S w (t::p);obtain⟨Z,b2⟩:=iG S w' (t::p);obtain⟨c1,c2⟩:=Ed (w':=w') (t::p) S hp fun d hd=>hw d (h6 _ d hd).2
     rw[<-hy,<-hk] at Y a2 Z b2;constructor
     ·have:∀I,cG I (.pointer (some ⟨b,0,none⟩)) (.box l) 0 off=some (cs.getD off undef)->aR I (.pointer (some ⟨b,0,none⟩)) (.box l) ((0,off)::t::p)=aR I (cs.getD off undef) (D.aY (.box l) 0 off) (t::p):=by
       intro I he;rw[aR,he,Option.bind_some]
      rw[this w' e2,this w e1,Y,Z,c1]
     ·have:∀I,cG I (.pointer (some ⟨b,0,none⟩)) (.box l) 0 off=some (cs.getD off undef)->aJ I (.pointer (some ⟨b,0,none⟩)) (.box l) ((0,off)::t::p)=aJ I (cs.getD off undef) (D.aY (.box l) 0 off) (t::p):=by
       intro I he;rw[aJ,he,Option.bind_some];simp
      rw[this w' e2,this w e1,a2,b2,c2]
    ·exact hp.elim
def cX(w w':World)(ct I:Nat->D)(vl S:Nat->Value):D->Prop
 | .sub k p=>(ct k).ew p->(I k).ew p/\aR w' (S k) (I k) p=aR w (vl k) (ct k) p
 | .aG k p=>(ct k).aZ p->(I k).aZ p/\aJ w' (S k) (I k) p=aJ w (vl k) (ct k) p
 | _=>True
theorem ai.bZ{w w':World}{ct S:Nat->D}{vl Z:Nat->Value}{v:Value}{d:D}(h:ai w ct vl v d)(hq:d.refs (cX w w' ct S vl Z)):ai w' S Z v d:=by
 cases d<;>try exact h.elim
 case sub k p =>
  obtain⟨h1,V,I⟩:=h;obtain⟨W,Y⟩:=hq h1;exact⟨W,Y.trans V,I⟩
 case aG k p =>
  obtain⟨h1,a,V,I⟩:=h;obtain⟨W,Y⟩:=hq h1;exact⟨W,a,Y.trans V,I⟩
 case pre k p n =>
  obtain⟨q,m,c,⟨h1,V⟩,I⟩:=h;obtain⟨W,Y⟩:=hq h1;exact⟨q,m,c,⟨W,Y.trans V⟩,I⟩
theorem de{Q W:D->Prop}{c:D}(h:∀d,Q d->W d)(S:c.refs Q):c.refs W:=by
 induction c using D.ind with
 | agg l I | av l I | box l I | fn _ l I=>exact bG.2 fun x V=>I x V (bG.1 S x V)
 | row z l _ I=>exact bG.2 fun x V=>I x V (bG.1 S x V)
 | when g x I=>exact I S
 | sub k p=>exact h _ S
 | aG k p=>exact h _ S
 | pre k p n=>exact h _ S
 | _=>trivial
theorem bw{Q:D->Prop}(h:∀d,Q d)(c:D):c.refs Q:=by
 induction c using D.ind with
 | agg l I | av l I | box l I | fn _ l I=>exact bG.2 I
 | row z l _ I=>exact bG.2 I
 | when g x I=>exact I
 | sub k p=>exact h _
 | aG k p=>exact h _
 | pre k p n=>exact h _
 | _=>trivial
theorem Rd.zV{w:World}{A:Nat->Prop}{v:Value}{d:D}(h:Rd w A v d)(Q:D->Prop):d.refs Q:=by
 induction h with
 | agg W _ V=>exact bG.2 fun x S=>by obtain⟨j,I,rfl⟩:=List.getElem_of_mem S;exact V j _ (List.getElem?_eq_getElem I)
 | av W _ V=>exact bG.2 fun x S=>by obtain⟨j,I,rfl⟩:=List.getElem_of_mem S;exact V j _ (List.getElem?_eq_getElem I)
 | fn W _ V=>exact bG.2 fun x S=>by obtain⟨j,I,rfl⟩:=List.getElem_of_mem S;exact V j _ (List.getElem?_eq_getElem I)
 | _=>trivial
section
variable{cx:Ctx}{ct:Nat->D}{vl:Nat->Value}{fp:Nat->Nat->Prop}{G:Nat->Prop}{w:World}
theorem vW(q:D->Bool)(l:List D)(n:Nat):(ey q l).getD n .dead=(l.getD n .dead).kill q:=by
 rw[dL,List.getD_eq_getElem?_getD,List.getD_eq_getElem?_getD,List.getElem?_map];cases l[n]?<;>rfl
theorem Rc{q:D->Bool}{c y:D}:c.kill q=.o y↔c=.o y:=by
 cases c<;>simp only[D.kill,reduceCtorEq]<;>split<;>simp
theorem rH(q:D->Bool){c:D}{p:Path}(hp:c.aZ p)(I:bD (c.kill q) p=true):bD c p=true/\((c.at p).iT=true->((c.kill q).at p).iT=true):=by
 cases c<;>try exact hp.elim
 case o x=>cases I
 case row z l=>cases I
 case box l =>
  cases p with
  | nil=>cases I
  | cons s p =>
   obtain⟨i,off⟩:=s;cases p with
   | cons t p=>cases I
   | nil =>
    refine⟨rfl,fun h=>?_⟩;have S:(D.box l).at [(i,off)]=l.getD off .dead:=rfl;have V:((D.box l).kill q).at [(i,off)]=(l.getD off .dead).kill q:=vW q l off;rw[S] at h;rw[V];generalize l.getD off .dead=c at h;cases c<;>first | rfl | cases h
theorem kL(q:D->Bool)(c:D)(v:Value)(p:Path)(h:c.aZ p):(c.kill q).aZ p/\aR w v (c.kill q) p=aR w v c p/\aJ w v (c.kill q) p=aJ w v c p:=by
 cases c<;>try exact h.elim
 case o x=>exact⟨h,rfl,rfl⟩
 case row z l=>simp only[D.aZ] at h;subst h;exact⟨rfl,rfl,rfl⟩
 case box l =>
  cases p with
  | nil=>exact⟨trivial,rfl,rfl⟩
  | cons s p =>
   obtain⟨i,off⟩:=s;obtain⟨rfl,W,hp⟩:=h;have hk:D.aY (.box (ey q l)) 0 off=(l.getD off .dead).kill q:=vW q l off;have I:cG w v (.box (ey q l)) 0 off=cG w v (.box l) 0 off:=rfl;cases p with
   | nil=>exact⟨⟨rfl,by simpa[dL] using W,trivial⟩,by simp only[D.kill,aR,I],rfl⟩
   | cons t p =>
    simp only at hp;split at hp
    ·rename_i y Y
     have V:(l.getD off .dead).kill q=.o y:=Rc.2 Y;have S:D.aY (.box l) 0 off=.o y:=Y;rw[V] at hk;refine⟨⟨rfl,by simpa[dL] using W,?_⟩,?_,?_⟩
     ·simp only[vW,V];exact hp
     ·simp only[D.kill];rw[aR,aR,I,hk,S]
     ·simp only[D.kill];rw[aJ,aJ,I,hk,S]<;>simp
    ·exact hp.elim
theorem QU(q:D->Bool)(c:D):(c.kill q).isObj=c.isObj:=by
 cases c<;>first | rfl | (simp only[D.kill];split<;>rfl)
theorem Hp.kill[Mode](h:Hp cx ct vl fp G w)(q:D->Bool):Hp cx (fun k=>(ct k).kill q) vl fp G w where
 ok k:=by
  refine((h.ok k).kill (q:=q) ai.form).mono (Q:=fun _=>True) (fun _ h=>h) (fun _ _=>rfl) (fun _ _=>rfl) (fun _ h=>h) (bw (fun _=>trivial) _) fun v d _ S=>?_
  refine S.bZ (bw (fun d=>?_) _);cases d<;>try trivial
  case sub k p=>exact fun hp=>⟨⟨(kL (w:=w) q (ct k) (vl k) p hp.1).1,fun I=>(rH q hp.1 I).2 (hp.2 (rH q hp.1 I).1)⟩,(kL q (ct k) (vl k) p hp.1).2.1⟩
  case aG k p=>exact fun hp=>⟨(kL (w:=w) q (ct k) (vl k) p hp).1,(kL q (ct k) (vl k) p hp).2.2⟩
 cz:=h.cz
 cK:=h.cK
 emp k hk:=h.emp k (by rwa [QU] at hk)
 lt:=h.lt
 cY:=h.cY
 size:=h.size
 same:=h.same
 os:=h.os
 tape:=h.tape
 output:=h.output
theorem Hp.grow[Mode](h:Hp cx ct vl fp G w){w':World}(Z:w.heap.size<=w'.heap.size)(hw:∀b,b<w.heap.size->w'.heap[b]?=w.heap[b]?)
  (Y:w'.os=w.os) (S:w'.tape=w.tape) (V:c6 w w'):Hp cx ct vl fp (fun b=>G b\/(w.heap.size<=b/\b<w'.heap.size)) w' where
 ok k:=by
  refine(h.ok k).mono (Q:=fun _=>True) (fun b I=>⟨⟨by have:=I.1.1;omega,I.1.2⟩,fun hg=>hg.elim I.2.1 (fun W=>by have:=I.1.1;omega),I.2.2⟩) (fun b I=>hw b I.1.1) (fun b I=>hw b (h.lt k b I).1) (fun _ h=>h) (bw (fun _=>trivial) _) fun v d _ hr=>?_
  refine hr.bZ (bw (fun d=>?_) _);cases d<;>try trivial
  case sub k p=>exact fun hp=>⟨hp,(ig (h.ok k) hp.1 fun b I=>hw b (h.lt k b I).1).1⟩
  case aG k p=>exact fun hp=>⟨hp,(ig (h.ok k) hp fun b I=>hw b (h.lt k b I).1).2⟩
 cz:=h.cz
 cK k b I hg:=hg.elim (h.cK k b I) fun W=>by have:=(h.lt k b I).1;omega
 emp:=h.emp
 lt k b I:=⟨by have:=(h.lt k b I).1;omega,(h.lt k b I).2⟩
 cY b I:=I.elim (fun hg=>⟨by have:=(h.cY b hg).1;omega,(h.cY b hg).2⟩) fun W=>⟨W.2,.inr (by have:=h.size;omega)⟩
 size:=Nat.le_trans h.size Z
 same b I hF:=by rw[hw b (by have:=h.size;omega)];exact h.same b I hF
 os:=Y.trans h.os
 tape:=S.trans h.tape
 output:=V.trans h.output
theorem Hp.release[Mode](h:Hp cx ct vl fp G w){G':Nat->Prop}(hG:∀b,G' b->G b):Hp cx ct vl fp G' w where
 ok k:=(h.ok k).mono (Q:=fun _=>True) (fun b I=>⟨I.1,fun hg=>I.2.1 (hG b hg),I.2.2⟩) (fun _ _=>rfl) (fun _ _=>rfl) (fun _ h=>h) (bw (fun _=>trivial) _) fun _ _ _ S=>S
 cz:=h.cz
 cK k b I hg:=h.cK k b I (hG b hg)
 emp:=h.emp
 lt:=h.lt
 cY b I:=h.cY b (hG b I)
 size:=h.size
 same:=h.same
 os:=h.os
 tape:=h.tape
 output:=h.output
theorem pJ{c:D}{p:Path}(h:c.aZ p):c.isObj=true:=by cases c<;>first | rfl | exact h.elim
theorem Hp.put[Mode](h:Hp cx ct vl fp G w){k:Nat}(hk:(ct k).isObj=false){v:Value}{c:D}{F G':Nat->Prop}(hc:aN w (ak cx fp G w) (ai w ct vl) v F c)
  (hF:∀b,F b->G b) (hG:∀b,G' b->G b) (ab:∀b,F b->¬G' b) (Z:c.isObj=false->∀b,¬F b):Hp cx (az ct k c) (az vl k v) (az fp k F) G' w:=by
 have aK:∀b,ak cx fp G w b->ak cx (az fp k F) G' w b:=by
  rintro b ⟨h1,W,h3⟩;refine⟨h1,fun hg=>W (hG b hg),fun j S=>?_⟩;by_cases I:j=k
  ·subst I;rw[bc] at S;exact W (hF b S)
  ·rw[aI _ _ I] at S;exact h3 j S
 have V:∀d,cX w w ct (az ct k c) vl (az vl k v) d:=by
  intro d;cases d<;>try trivial
  case sub j p =>
   intro hp;have I:j≠k:=by rintro rfl;rw[pJ hp.1] at hk;cases hk
   simp only[aI _ _ I];exact⟨hp,trivial⟩
  case aG j p =>
   intro hp;have I:j≠k:=by rintro rfl;rw[pJ hp] at hk;cases hk
   simp only[aI _ _ I];exact⟨hp,trivial⟩
 have mono:∀{v c F},aN w (ak cx fp G w) (ai w ct vl) v F c->aN w (ak cx (az fp k F) G' w) (ai w (az ct k c) (az vl k v)) v F c->True:=fun _ _=>trivial
 refine⟨fun j=>?_,fun i j ad b hi S=>?_,fun j b S hg=>?_,fun j S b Y=>?_,fun j b S=>?_,fun b Y=>h.cY b (hG b Y),h.size,h.same,h.os,h.tape,h.output⟩
 ·by_cases I:j=k
  ·subst I
   simp only[bc];exact hc.mono (Q:=fun _=>True) aK (fun _ _=>rfl) (fun _ _=>rfl) (fun _ h=>h) (bw (fun _=>trivial) _) fun v d _ hr=>hr.bZ (bw V _)
  ·simp only[aI _ _ I]
   exact(h.ok j).mono (Q:=fun _=>True) aK (fun _ _=>rfl) (fun _ _=>rfl) (fun _ h=>h) (bw (fun _=>trivial) _) fun v d _ hr=>hr.bZ (bw V _)
 ·by_cases h1:i=k<;>by_cases W:j=k
  ·omega
  ·subst h1;rw[bc] at hi;rw[aI _ _ W] at S;exact h.cK j b S (hF b hi)
  ·subst W;rw[bc] at S;rw[aI _ _ h1] at hi;exact h.cK i b hi (hF b S)
  ·rw[aI _ _ h1] at hi;rw[aI _ _ W] at S;exact h.cz i j ad b hi S
 ·by_cases I:j=k
  ·subst I;rw[bc] at S;exact ab b S hg
  ·rw[aI _ _ I] at S;exact h.cK j b S (hG b hg)
 ·by_cases I:j=k
  ·subst I;rw[bc] at S Y;exact Z S b Y
  ·rw[aI _ _ I] at S Y;exact h.emp j S b Y
 ·by_cases I:j=k
  ·subst I;rw[bc] at S;exact h.cY b (hF b S)
  ·rw[aI _ _ I] at S;exact h.lt j b S
def cH(k:Nat):D->Prop
 | .sub j _=>j≠k
 | .aG j _=>j≠k
 | _=>True
theorem Hp.drop[Mode](h:Hp cx ct vl fp G w)(k:Nat)(ab:∀j,(ct j).refs (cH k))(v:Value):Hp cx (az ct k .dead) (az vl k v) (az fp k fun _=>False) (fun b=>G b\/fp k b) w:=by
 have aK:∀b,ak cx fp G w b->ak cx (az fp k fun _=>False) (fun b=>G b\/fp k b) w b:=by
  rintro b ⟨h1,Y,h3⟩;refine⟨h1,fun hg=>hg.elim Y (h3 k),fun j S=>?_⟩;by_cases I:j=k
  ·subst I;rw[bc] at S;exact S
  ·rw[aI _ _ I] at S;exact h3 j S
 have V:∀d,cH k d->cX w w ct (az ct k .dead) vl (az vl k v) d:=by
  intro d hd;cases d<;>try trivial
  all_goals
   rename_i j p;intro hp;simp only[aI _ _ (show j≠k from hd)];exact⟨hp,trivial⟩
 refine⟨fun j=>?_,fun i j Z b hi S=>?_,fun j b S hg=>?_,fun j S b W=>?_,fun j b S=>?_,fun b W=>W.elim (h.cY b) (h.lt k b),h.size,h.same,h.os,h.tape,h.output⟩
 ·by_cases I:j=k
  ·subst I
   simp only[bc];exact Pl.dead
  ·simp only[aI _ _ I]
   exact(h.ok j).mono (Q:=cH k) aK (fun _ _=>rfl) (fun _ _=>rfl) (fun _ h=>h) (ab j) fun v d hq hr=>hr.bZ (de V hq)
 ·by_cases h1:i=k<;>by_cases Y:j=k
  ·omega
  ·subst h1;rw[bc] at hi;exact hi
  ·subst Y;rw[bc] at S;exact S
  ·rw[aI _ _ h1] at hi;rw[aI _ _ Y] at S;exact h.cz i j Z b hi S
 ·by_cases I:j=k
  ·subst I;rw[bc] at S;exact S
  ·rw[aI _ _ I] at S;exact hg.elim (h.cK j b S) (h.cz j k I b S)
 ·by_cases I:j=k
  ·subst I;rw[bc] at W;exact W
  ·rw[aI _ _ I] at S W;exact h.emp j S b W
 ·by_cases I:j=k
  ·subst I;rw[bc] at S;exact S.elim
  ·rw[aI _ _ I] at S;exact h.lt j b S
end
end Go.D3
namespace Go.D3
open Go
def gh(w:World)(A:Nat->Prop)(R:Value->D->Prop)(v:Value)(F:Nat->Prop)(lvl:Bool)(y:D):Prop :=
 match lvl with
 | true=>ca w A R v F y
 | false=>aq w A v y F
def fJ:D->Path->D->Prop
 | .o x,p,y=>dY x p y
 | .box _,[_],_=>True
 | .box l,(_,off)::p,y=>dY (l.getD off .dead).un p y
 | _,_,_=>False
theorem D.nO{w:World}{A:Nat->Prop}{v:Value}{x:D}{F:Nat->Prop}(h:aq w A v x F){p:Path}(hp:p≠[]):(D.o x).at p=x.at p:=by
 cases p with
 | nil=>exact absurd rfl hp
 | cons s p =>
  obtain⟨hu,_⟩:=h.un;simp only[D.at,D.aY,hu];rfl
theorem D.oR{w:World}{A:Nat->Prop}{v:Value}{x:D}{F:Nat->Prop}(h:aq w A v x F){p:Path}(hp:p≠[])(y:D):(D.o x).setAt p y=.o (x.setAt p y):=by
 cases p with
 | nil=>exact absurd rfl hp
 | cons s p =>
  obtain⟨hu,I⟩:=h.un;obtain⟨i,off⟩:=s;simp only[D.setAt,D.aY,hu,I];rfl
theorem vk{w w':World}{A A':Nat->Prop}{R R':Value->D->Prop}{Q:D->Prop}{l:List D}{b off:Nat}{cs S:Array Value}{e:TypeId}{Fs:Nat->Nat->Prop}{y:D}{F1' F':Nat->Prop}
  (h3:cs.size=l.length) (h4:∀j c,l[j]?=some c->ca w A R (cs.getD j undef) (Fs j) c) (h6:∀j c,Fs j c->c≠b) (h7:∀i j c,i≠j->Fs i c->¬Fs j c) (ho:off<l.length)
  (hA:∀b,A b->A' b) (a1:∀b,A b->w'.heap[b]?=w.heap[b]?) (hw:∀c,(∃j,j≠off/\Fs j c)->w'.heap[c]?=w.heap[c]?) (hb:w'.heap[b]?=some (.cells S e (0,0))) (ad:S.size=cs.size) (Y:∀j,j≠off->S.getD j undef=cs.getD j undef)
  (hy:ca w' A' R' (S.getD off undef) F1' y) (hd:∀c,F1' c->¬(c=b\/∃j,j≠off/\Fs j c)) (h1:∀c,F1' c->F' c) (h2:∀c,(c=b\/∃j,j≠off/\Fs j c)->F' c)
  (hq:∀x∈l,x.refs Q) (hR:∀v d,d.refs Q->R v d->R' v d):xJ w' A' R' (.pointer (some ⟨b,0,none⟩)) F' (l.set off y):=by
 refine⟨by rw[List.length_set];omega,b,S,e,fun j c=>if j=off then F1' c else Fs j c,rfl,hb,by simp[ad,h3],fun j c I=>?_,h2 b (.inl rfl),fun j c I=>?_,fun p q c ax hp W=>?_⟩
 ·by_cases V:j=off
  ·subst V
   rw[List.getElem?_set_self ho] at I;injection I with I
   subst I;simpa using hy
  ·rw[List.getElem?_set_ne (Ne.symm V)] at I
   simp only[if_neg V,Y j V];exact(h4 j c I).mono hA a1 (fun c hc=>hw c ⟨j,V,hc⟩) (fun _ h=>h) (hq c (List.mem_of_getElem? I)) hR
 ·dsimp only at I
  split at I
  ·exact⟨fun ab=>hd c I (.inl ab),h1 c I⟩
  ·rename_i ag;exact⟨h6 j c I,h2 c (.inr ⟨j,ag,I⟩)⟩
 ·dsimp only at hp W
  split at hp<;>split at W
  ·omega
  ·rename_i Z;exact hd c hp (.inr ⟨q,Z,W⟩)
  ·rename_i ao _;exact hd c W (.inr ⟨p,ao,hp⟩)
  ·exact h7 p q c ax hp W
theorem aN.splitAt{w:World}{A:Nat->Prop}{R:Value->D->Prop}{v:Value}{c:D}{F:Nat->Prop}{p:Path}(h:aN w A R v F c)(hp:c.aZ p)(S:p≠[]) :
  ∃(u:Value)(F1 F2:Nat->Prop),aR w v c p=some u/\gh w A R u F1 (bD c p) (c.at p)/\(∀b,F1 b->F b)/\(∀b,F2 b->F b)/\(∀b,F1 b->¬F2 b) /\
   (∀(w':World)(A':Nat->Prop)(R':Value->D->Prop)(Q:D->Prop)(y:D)(F1' F':Nat->Prop),(∀b,A b->A' b)->(∀b,A b->w'.heap[b]?=w.heap[b]?)->(∀b,F2 b->w'.heap[b]?=w.heap[b]?)->gh w' A' R' u F1' (bD c p) y->(∀b,F1' b->¬F2 b) ->
     fJ c p y->(∀b,F1' b->F' b)->(∀b,F2 b->F' b)->c.refs Q->(∀v d,d.refs Q->R v d->R' v d)->aN w' A' R' v F' (c.setAt p y)) /\
   (∀a,aJ w v c p=some a->F2 a.block/\a.spot=none/\w.cell? a=some u/\w.frozen? a=false /\
     ∀(u':Value)(w':World)(A':Nat->Prop)(R':Value->D->Prop)(Q:D->Prop)(y:D)(F1' F':Nat->Prop),(∀b,A b->A' b)->(∀b,A b->w'.heap[b]?=w.heap[b]?)->(∀b,F2 b->b≠a.block->w'.heap[b]?=w.heap[b]?) ->
      w'.heap[a.block]?=(w.setCell a u').heap[a.block]?->gh w' A' R' u' F1' (bD c p) y->(∀b,F1' b->¬F2 b) ->
      fJ c p y->(∀b,F1' b->F' b)->(∀b,F2 b->F' b)->c.refs Q->(∀v d,d.refs Q->R v d->R' v d)->aN w' A' R' v F' (c.setAt p y)):=by
 cases c<;>try exact hp.elim
 case row z l=>exact absurd hp S
 case o x =>
  obtain⟨u,F1,F2,g1,g2,g3,g4,g5,g6,g7⟩:=aq.splitAt p h hp;obtain⟨a1,a2⟩:=iG h w p;have hl:bD (.o x) p=false:=rfl;refine⟨u,F1,F2,a1.trans g1,?_,g3,g4,g5,?_,?_⟩
  ·rw[hl,D.nO h S];exact g2
  ·intro w' A' R' Q y F1' F' hA W hw hy hd ad h1 h2 _ _
   rw[D.oR h S];exact g6 w' A' y F1' F' hA W hw hy hd ad h1 h2
  ·intro a ha
   rw[a2] at ha;obtain⟨j1,j2,j3,bg,j4⟩:=g7 a ha;refine⟨j1,j2,j3,bg,fun u' w' A' R' Q y F1' F' hA W hw ax hy hd ad h1 h2 _ _=>?_⟩;rw[D.oR h S];exact j4 u' w' A' y F1' F' hA W hw ax hy hd ad h1 h2
 case box l =>
  cases p with
  | nil=>exact absurd rfl S
  | cons s p =>
   obtain⟨i,off⟩:=s;obtain⟨_,b,cs,e,Fs,h1,h2,h3,h4,h5,h6,h7⟩:=h;obtain⟨rfl,ho,hp⟩:=hp;subst h1;have ag:off<cs.size:=by omega
   have ab:cG w (.pointer (some ⟨b,0,none⟩)) (.box l) 0 off=some (cs.getD off undef):=by
    show w.cell? ⟨b,0+off,none⟩=_;rw[Nat.zero_add];exact fQ h2 ag
   have a6:l[off]?=some (l.getD off .dead):=by
    rw[List.getD_eq_getElem?_getD,List.getElem?_eq_getElem ho];rfl
   have Y:=h4 off _ a6;have hk:D.aY (.box l) 0 off=l.getD off .dead:=rfl
   have ao:∀c,(c=b\/∃j,j≠off/\Fs j c)->F c:=by
    rintro c (rfl | ⟨j,_,hj⟩)
    ·exact h5
    ·exact(h6 j c hj).2
   have Z:∀c,Fs off c->¬(c=b\/∃j,j≠off/\Fs j c):=by
    rintro c I (rfl | ⟨j,S,hj⟩)
    ·exact(h6 _ _ I).1 rfl
    ·exact h7 _ _ c (Ne.symm S) I hj
   cases p with
   | nil =>
    refine⟨cs.getD off undef,Fs off,(fun c=>c=b\/∃j,j≠off/\Fs j c),?_,Y,fun c I=>(h6 _ c I).2,ao,Z,?_,?_⟩
    ·simp only[aR,ab,Option.bind_some]
    ·intro w' A' R' Q y F1' F' hA W hw hy hd _ g1 g2 hq hR
     exact vk h3 h4 (fun j c hj=>(h6 j c hj).1) h7 ho hA W (fun c I=>hw c (.inr I)) ((hw b (.inl rfl)).trans h2) rfl (fun _ _=>rfl) hy hd g1 g2 (bG.1 hq) hR
    ·intro a ha
     simp only[aJ,dI,D.un,dU,Option.some.injEq,Nat.zero_add] at ha;subst ha;refine⟨.inl rfl,rfl,fQ h2 ag,by simp[World.frozen?,h2],fun u' w' A' R' Q y F1' F' hA W hw ax hy hd _ g1 g2 hq hR=>?_⟩;refine vk h3 h4 (fun j c hj=>(h6 j c hj).1) h7 ho hA W (fun c ⟨j,S,hj⟩=>hw c (.inr ⟨j,S,hj⟩) (h6 j c hj).1) (ax.trans (Bv u' h2)) (by simp) (fun j hj=>getD_set_ne _ (Ne.symm hj)) ?_ hd g1 g2 (bG.1 hq) hR;rw[rA _ ag];exact hy
   | cons t p =>
    simp only at hp;split at hp
    ·rename_i y0 bF
     rw[bF] at Y hk a6;simp only[ca] at Y;obtain⟨u,F1,F2,g1,g2,g3,g4,g5,g6,g7⟩:=aq.splitAt (t::p) Y hp;obtain⟨a1,a2⟩:=iG Y w (t::p);have b2:bD (.box l) ((0,off)::t::p)=false:=rfl
     have b1:(D.box l).at ((0,off)::t::p)=y0.at (t::p):=by
      rw[D.at,hk,D.nO Y (by simp)]
     have a8:∀y,(D.box l).setAt ((0,off)::t::p) y=.box (l.set off (.o (y0.setAt (t::p) y))):=by
      intro y;rw[D.setAt,hk,D.oR Y (by simp)];rfl
     have a7:∀y,fJ (.box l) ((0,off)::t::p) y->dY y0 (t::p) y:=by
      intro y hy;simpa only[fJ,bF,D.un] using hy
     refine⟨u,F1,fun c=>F2 c\/(c=b\/∃j,j≠off/\Fs j c),?_,?_,fun c I=>(h6 _ c (g3 c I)).2,?_,?_,?_,?_⟩
     ·rw[aR,ab,Option.bind_some,hk,a1];exact g1
     ·rw[b2,b1];exact g2
     ·rintro c (I | I)
      ·exact(h6 _ c (g4 c I)).2
      ·exact ao c I
     ·rintro c I (V | V)
      ·exact g5 c I V
      ·exact Z c (g3 c I) V
     ·intro w' A' R' Q y F1' F' hA W hw hy hd ad k1 k2 hq hR
      rw[a8];have:=g6 w' A' y F1' (fun c=>F1' c\/F2 c) hA W (fun c I=>hw c (.inl I)) hy (fun c I V=>hd c I (.inl V)) (a7 y ad) (fun _ h=>.inl h) (fun _ h=>.inr h)
      exact vk (y:=.o (y0.setAt (t::p) y)) (F1':=fun c=>F1' c\/F2 c) h3 h4 (fun j c hj=>(h6 j c hj).1) h7 ho hA W (fun c I=>hw c (.inr (.inr I))) ((hw b (.inr (.inl rfl))).trans h2) rfl (fun _ _=>rfl) this
       (fun c I V=>I.elim (fun h=>hd c h (.inr V)) fun h=>Z c (g4 c h) V) (fun c I=>I.elim (k1 c) fun h=>k2 c (.inl h)) (fun c I=>k2 c (.inr I)) (bG.1 hq) hR
     ·intro a ha
      have bT:aJ w (cs.getD off undef) y0 (t::p)=some a:=by
       have e:aJ w (.pointer (some ⟨b,0,none⟩)) (.box l) ((0,off)::t::p)=aJ w (cs.getD off undef) (.o y0) (t::p):=by
        rw[aJ,ab,Option.bind_some,hk];simp
       rw[<-a2,<-e];exact ha
      obtain⟨j1,j2,j3,bg,j4⟩:=g7 a bT;refine⟨.inl j1,j2,j3,bg,fun u' w' A' R' Q y F1' F' hA W hw ax hy hd ad k1 k2 hq hR=>?_⟩;rw[a8];have b0:a.block≠b:=(h6 _ _ (g4 _ j1)).1;have:=j4 u' w' A' y F1' (fun c=>F1' c\/F2 c) hA W (fun c I S=>hw c (.inl I) S) ax hy (fun c I V=>hd c I (.inl V)) (a7 y ad) (fun _ h=>.inl h) (fun _ h=>.inr h)
      exact vk (y:=.o (y0.setAt (t::p) y)) (F1':=fun c=>F1' c\/F2 c) h3 h4 (fun j c hj=>(h6 j c hj).1) h7 ho hA W
       (fun c ⟨j,S,hj⟩=>hw c (.inr (.inr ⟨j,S,hj⟩)) (by rintro rfl;exact h7 _ _ _ (Ne.symm S) (g4 _ j1) hj)) ((hw b (.inr (.inl rfl)) (Ne.symm b0)).trans h2) rfl (fun _ _=>rfl) this
       (fun c I V=>I.elim (fun h=>hd c h (.inr V)) fun h=>Z c (g4 c h) V) (fun c I=>I.elim (k1 c) fun h=>k2 c (.inl h)) (fun c I=>k2 c (.inr I)) (bG.1 hq) hR
    ·exact hp.elim
section
variable{cx:Ctx}{ct:Nat->D}{vl:Nat->Value}{fp:Nat->Nat->Prop}{G:Nat->Prop}{w:World}
theorem Hp.change[Mode](h:Hp cx ct vl fp G w){k:Nat}{c':D}{F' G':Nat->Prop}{w':World}(Q:D->Prop)(ax:c'.isObj=true)
  (hc:aN w' (ak cx fp G w) (ai w ct vl) (vl k) F' c') (hrefs:∀j,j≠k->(ct j).refs Q) (Y:c'.refs Q)
  (hF:∀b,F' b->fp k b\/G b) (hG:∀b,G' b->fp k b\/G b) (a7:∀b,F' b->¬G' b)
  (ab:w'.heap.size=w.heap.size) (hw:∀b,¬fp k b->w'.heap[b]?=w.heap[b]?) (a8:w'.os=w.os) (ad:w'.tape=w.tape) (a1:c6 w w')
  (a6:∀p,Q (.sub k p)->(ct k).ew p->c'.ew p/\aR w' (vl k) c' p=aR w (vl k) (ct k) p)
  (ag:∀p,Q (.aG k p)->(ct k).aZ p->c'.aZ p/\aJ w' (vl k) c' p=aJ w (vl k) (ct k) p) :
  Hp cx (az ct k c') vl (az fp k F') G' w'/\∀d,Q d->cX w w' ct (az ct k c') vl vl d:=by
 have aK:∀b,ak cx fp G w b->ak cx (az fp k F') G' w' b:=by
  rintro b ⟨h1,h2,h3⟩;refine⟨⟨by have:=h1.1;omega,h1.2⟩,fun hg=>(hG b hg).elim (h3 k) h2,fun j S=>?_⟩;by_cases I:j=k
  ·subst I;rw[bc] at S;exact(hF b S).elim (h3 _) h2
  ·rw[aI _ _ I] at S;exact h3 j S
 have V:∀d,Q d->cX w w' ct (az ct k c') vl vl d:=by
  intro d hd;cases d<;>try trivial
  case sub j p =>
   intro(hp:(ct j).ew p);by_cases I:j=k
   ·subst I
    simp only[bc];exact a6 p hd hp
   ·simp only[aI _ _ I]
    exact⟨hp,(ig (h.ok j) hp.1 fun b W=>hw b (h.cz j k I b W)).1⟩
  case aG j p =>
   intro hp;by_cases I:j=k
   ·subst I
    simp only[bc];exact ag p hd hp
   ·simp only[aI _ _ I]
    exact⟨hp,(ig (h.ok j) hp fun b W=>hw b (h.cz j k I b W)).2⟩
 refine⟨⟨fun j=>?_,fun i j Z b hi S=>?_,fun j b S hg=>?_,fun j S b W=>?_,fun j b S=>?_,fun b W=>?_,by rw[ab];exact h.size,fun b W ao=>?_,a8.trans h.os,ad.trans h.tape,a1.trans h.output⟩,V⟩
 ·by_cases I:j=k
  ·subst I
   simp only[bc];exact hc.mono (Q:=Q) aK (fun _ _=>rfl) (fun _ _=>rfl) (fun _ h=>h) Y fun v d hq hr=>hr.bZ (de V hq)
  ·simp only[aI _ _ I]
   exact(h.ok j).mono (Q:=Q) aK (fun b W=>hw b (W.2.2 k)) (fun b W=>hw b (h.cz j k I b W)) (fun _ h=>h) (hrefs j I) fun v d hq hr=>hr.bZ (de V hq)
 ·by_cases h1:i=k<;>by_cases h2:j=k
  ·omega
  ·subst h1;rw[bc] at hi;rw[aI _ _ h2] at S;exact(hF b hi).elim (h.cz j i (Ne.symm Z) b S) (h.cK j b S)
  ·subst h2;rw[bc] at S;rw[aI _ _ h1] at hi;exact(hF b S).elim (h.cz i j Z b hi) (h.cK i b hi)
  ·rw[aI _ _ h1] at hi;rw[aI _ _ h2] at S;exact h.cz i j Z b hi S
 ·by_cases I:j=k
  ·subst I;rw[bc] at S;exact a7 b S hg
  ·rw[aI _ _ I] at S;exact(hG b hg).elim (h.cz j k I b S) (h.cK j b S)
 ·by_cases I:j=k
  ·subst I;rw[bc] at S;rw[ax] at S;cases S
  ·rw[aI _ _ I] at S W;exact h.emp j S b W
 ·rw[ab]
  by_cases I:j=k
  ·subst I;rw[bc] at S;exact(hF b S).elim (h.lt _ b) (h.cY b)
  ·rw[aI _ _ I] at S;exact h.lt j b S
 ·rw[ab];exact(hG b W).elim (h.lt k b) (h.cY b)
 ·by_cases hk:fp k b
  ·have:=(h.lt k b hk).2
   rcases this with h1 | h1
   ·exact absurd h1 ao
   ·omega
  ·rw[hw b hk];exact h.same b W ao
theorem QB{x:D}{i off:Nat}{y:D}{I off':Nat}:(x.dw i off y).fg I off'↔x.fg I off':=by
 cases x<;>simp[D.dw,D.fg]
theorem Q9{v:Value}{x:D}{i off:Nat}{y:D}{I off':Nat}:dU v (x.dw i off y) I off'=dU v x I off':=by
 cases x<;>rfl
theorem Bu{c:D}{p:Path}(hp:c.aZ p)(I:p≠[])(y:D):(c.setAt p y).isObj=true:=by
 cases p with
 | nil=>exact absurd rfl I
 | cons t p =>
  obtain⟨i,off⟩:=t;cases c<;>first | rfl | exact hp.elim
theorem ux{Q:D->Prop}{w:World}{A:Nat->Prop}{R:Value->D->Prop}{v:Value}{c:D}{F:Nat->Prop}(h:aN w A R v F c){p:Path}(hp:c.aZ p)(I:p≠[]){y:D}(V:c.refs Q)(Y:bD c p=true->y.refs Q):(c.setAt p y).refs Q:=by
 cases c<;>try exact hp.elim
 case row z l=>exact absurd hp I
 case o x=>rw[D.oR h I];trivial
 case box l =>
  cases p with
  | nil=>exact absurd rfl I
  | cons t p =>
   obtain⟨i,off⟩:=t;have e:(D.box l).setAt ((i,off)::p) y=.box (l.set off (((D.box l).aY i off).setAt p y)):=rfl;rw[e];refine bG.2 fun x W=>?_
   rcases List.mem_or_eq_of_mem_set W with h1 | h1
   ·exact bG.1 V x h1
   ·subst h1
    cases p with
    | nil=>exact Y rfl
    | cons s p =>
     obtain⟨_,ho,hp⟩:=hp;simp only at hp;split at hp
     ·rename_i Z S
      have:(D.box l).aY i off=.o Z:=S;rw[this];obtain⟨i',off'⟩:=s;trivial
     ·exact hp.elim
def D.bm(c:D)(p:Path):D:=(c.at p).un
theorem zq{c:D}(h:c.iT=true):∃y,c=.o y:=by cases c<;>first | exact⟨_,rfl⟩ | cases h
end
end Go.D3
namespace Go.D3
open Go
def apart:Path->Path->Bool
 | [],_=>false
 | _,[]=>false
 | s::p,t::q=>if s=t then apart p q else true
section
variable{w:World}{A:Nat->Prop}{v:Value}{x:D}{F:Nat->Prop}
theorem G5(Z:∀z l,(x=.slice z l\/x=.row z l)->∀e∈l,e.cells.length=z.cells.length){i off:Nat}{y:D}(hk:x.fg i off)(I:x.iW i y):(x.dw i off y).dV i off=y:=by
 have key:∀(z:D)(l:List D),(∀e∈l,e.cells.length=z.cells.length)->i<l.length->off<z.cells.length->kS (l.getD i z) y->((l.set i (dM (l.getD i z) off y)).getD i z).cells.getD off .dead=y:=by
  intro z l W h1 h2 I;have V:l.getD i z=l[i]:=by rw[List.getD_eq_getElem?_getD,List.getElem?_eq_getElem h1];rfl
  have Y:=W l[i] (List.getElem_mem h1);rw[<-V] at Y;have e0:(l.set i (dM (l.getD i z) off y)).getD i z=dM (l.getD i z) off y:=by rw[List.getD_eq_getElem?_getD,List.getElem?_set_self h1,Option.getD_some]
  rw[e0];generalize l.getD i z=e at Y I;rw[xh I (by omega),List.getD_eq_getElem?_getD,List.getElem?_set_self (by omega),Option.getD_some]
 have S:∀(l:List D),off<l.length->(l.set off y).getD off .dead=y:=by
  intro l h;rw[List.getD_eq_getElem?_getD,List.getElem?_set_self h,Option.getD_some]
 cases x<;>try exact hk.elim
 case slice z l=>exact key z l (Z z l (.inl rfl)) hk.1 hk.2 I
 case row z l=>exact key z l (Z z l (.inr rfl)) hk.1 hk.2 I
 all_goals exact S _ hk.2
theorem G6(hz:∀z l,(x=.slice z l\/x=.row z l)->∀e∈l,e.cells.length=z.cells.length){i off I off':Nat}{y:D}(hk:x.fg i off)(ad:x.fg I off')(W:(i,off)≠(I,off'))(Y:x.iW i y) :
  (x.dw i off y).dV I off'=x.dV I off':=by
 have key:∀(z:D)(l:List D),(∀e∈l,e.cells.length=z.cells.length)->i<l.length->off<z.cells.length->kS (l.getD i z) y->((l.set i (dM (l.getD i z) off y)).getD I z).cells.getD off' .dead=(l.getD I z).cells.getD off' .dead:=by
  intro z l ag h1 h2 Y;by_cases V:i=I
  ·subst V
   have S:off≠off':=fun h=>W (by rw[h])
   have ab:l.getD i z=l[i]:=by rw[List.getD_eq_getElem?_getD,List.getElem?_eq_getElem h1];rfl
   have hl:=ag l[i] (List.getElem_mem h1);rw[<-ab] at hl;have e0:(l.set i (dM (l.getD i z) off y)).getD i z=dM (l.getD i z) off y:=by rw[List.getD_eq_getElem?_getD,List.getElem?_set_self h1,Option.getD_some]
   rw[e0];generalize l.getD i z=e at hl Y;rw[xh Y (by omega),List.getD_eq_getElem?_getD,List.getElem?_set_ne S,<-List.getD_eq_getElem?_getD]
  ·rw[List.getD_eq_getElem?_getD (l:=l.set i _),List.getElem?_set_ne V,<-List.getD_eq_getElem?_getD]
 have Z:∀(l:List D),i=0->I=0->(l.set off y).getD off' .dead=l.getD off' .dead:=by
  intro l h h';have S:off≠off':=fun e=>W (by rw[h,h',e])
  rw[List.getD_eq_getElem?_getD,List.getElem?_set_ne S,<-List.getD_eq_getElem?_getD]
 cases x<;>try exact hk.elim
 case slice z l=>exact key z l (hz z l (.inl rfl)) hk.1 hk.2 Y
 case row z l=>exact key z l (hz z l (.inr rfl)) hk.1 hk.2 Y
 all_goals exact Z _ hk.1 ad.1
theorem Rb{i off:Nat}{y:D}{I off':Nat}(w':World):mW w' v (x.dw i off y) I off'=mW w' v x I off':=by
 cases x<;>rfl
theorem Mt(hu:x.un=x)(i off:Nat)(y:D):(x.dw i off y).un=x.dw i off y:=by
 cases x<;>first | rfl | exact hu
theorem G7(h:aq w A v x F){i off:Nat}(y:D)(I off':Nat):((x.fw i off y).lW I off'↔x.lW I off')/\(∀w' S,cG w' S (x.fw i off y) I off'=cG w' S x I off')/\(∀S,dI S (x.fw i off y) I off'=dI S x I off') /\
  (x.fw i off y).aY I off'=(x.dw i off y).dV I off':=by
 obtain⟨hu,W⟩:=h.un;have V:=Mt hu i off y;unfold D.lW cG dI D.aY;rw[W,V,hu];exact⟨QB,fun w' S=>Rb w',fun S=>Q9,rfl⟩
theorem x8{y:D}:∀(p q:Path){v:Value}{x:D}{F:Nat->Prop},aq w A v x F->x.has p->x.has q->apart p q=true->dY x p y ->
  (x.setAt p y).has q/\(x.setAt p y).at q=x.at q/\∀(w':World)(V:Value),aR w' V (x.setAt p y) q=aR w' V x q/\aJ w' V (x.setAt p y) q=aJ w' V x q
 | [],q,_,_,_,_,_,_,Y,_=>by simp[apart] at Y
 | _::_,[],_,_,_,_,_,_,Y,_=>by simp[apart] at Y
 | (i,off)::p,(i',off')::q,v,x,F,h,hp,hq,Y,W=>by
  obtain⟨e1,e2,e3,e4⟩:=lY h i off;obtain⟨u,F1,F2,g1,g2,_⟩:=h.split (e2.1 hp.1);rw[<-e1] at g2
  have S:x.iW i ((x.aY i off).setAt p y)/\(p≠[]->dY (x.aY i off) p y):=by
   cases p with
   | nil=>simp only[dY,h.un.1] at W;exact⟨W,fun h=>absurd rfl h⟩
   | cons s p =>
    refine⟨z7 (e2.1 hp.1) h.oT ?_,fun _=>W⟩;rw[Bt (by simp) y g2.un.1,e1]
  obtain⟨k1,k2,k3,k4⟩:=G7 h (i:=i) (off:=off) ((x.aY i off).setAt p y) i' off';have ad:=(lY h i' off').1;have ag:=(lY h i' off').2.1;simp only[D.setAt];by_cases aK:(i,off)=(i',off')
  ·have ab:apart p q=true:=by simpa[apart,aK] using Y
   cases aK;have Z:p≠[]:=by rintro rfl;simp[apart] at ab
   obtain⟨j1,j2,j3⟩:=x8 p q g2 hp.2 hq.2 ab (S.2 Z);have I:(x.fw i off ((x.aY i off).setAt p y)).aY i off=(x.aY i off).setAt p y:=by rw[k4];exact G5 h.oT (e2.1 hp.1) S.1
   refine⟨⟨k1.2 hq.1,by rw[I];exact j1⟩,by simp only[D.at];rw[I];exact j2,fun w' V=>⟨?_,?_⟩⟩
   ·simp only[aR]
    rw[k2,I];congr 1;funext u';exact(j3 w' u').1
   ·cases q with
    | nil=>simp only[aJ];exact k3 V
    | cons t q =>
     simp only[aJ];rw[k2,I];congr 1;funext u';exact(j3 w' u').2
  ·have I:(x.fw i off ((x.aY i off).setAt p y)).aY i' off'=x.aY i' off':=by rw[k4,ad];exact G6 h.oT (e2.1 hp.1) (ag.1 hq.1) aK S.1
   refine⟨⟨k1.2 hq.1,by rw[I];exact hq.2⟩,by simp only[D.at];rw[I],fun w' V=>⟨?_,?_⟩⟩
   ·simp only[aR];rw[k2,I]
   ·cases q with
    | nil=>simp only[aJ];exact k3 V
    | cons t q=>simp only[aJ];rw[k2,I]
theorem EV{x:D}(hu:x.un=x){p:Path}(hp:p≠[]):(D.o x).at p=x.at p:=by
 cases p with
 | nil=>exact absurd rfl hp
 | cons s p=>simp only[D.at,D.aY,hu];rfl
theorem sD{x:D}(hu:x.un=x)(w':World)(v:Value)(p:Path):aR w' v (.o x) p=aR w' v x p/\aJ w' v (.o x) p=aJ w' v x p:=by
 cases p with
 | nil=>exact⟨rfl,rfl⟩
 | cons s p =>
  obtain⟨i,off⟩:=s;have I:cG w' v (.o x) i off=cG w' v x i off:=by unfold cG;rw[hu];rfl
  have S:D.aY (.o x) i off=x.aY i off:=by unfold D.aY;rw[hu];rfl
  have V:dI v (.o x) i off=dI v x i off:=by unfold dI;rw[hu];rfl
  refine⟨by simp only[aR,I,S],?_⟩;cases p with
  | nil=>simp only[aJ,V]
  | cons t p=>simp only[aJ,I,S]
theorem uC(h:aq w A v x F){p:Path}(hp:p≠[])(y:D):(x.setAt p y).un=x.setAt p y:=by
 cases p with
 | nil=>exact absurd rfl hp
 | cons s p =>
  obtain⟨hu,I⟩:=h.un;simp only[D.setAt];rw[I];exact Mt hu _ _ _
theorem z6:∀(p:Path)(x:D),dY x p .dead
 | [],_=>trivial
 | [(i,off)],x=>by
  simp only[dY];generalize x.un=z;cases z<;>first | trivial | exact .inr rfl
 | (i,off)::s::p,x=>z6 (s::p) (x.aY i off)
theorem TC{c:D}{p:Path}(hp:c.aZ p)(I:p≠[]):fJ c p .dead:=by
 cases c<;>try exact hp.elim
 case o x=>exact z6 p x
 case row=>exact absurd hp I
 case box l =>
  cases p with
  | nil=>exact absurd rfl I
  | cons s p =>
   cases p with
   | nil=>exact trivial
   | cons t p=>exact z6 (t::p) _
theorem vd{R:Value->D->Prop}{c y:D}{p q:Path}(h:aN w A R v F c)(hp:c.aZ p)(hq:c.aZ q)(ha:apart p q=true)(ag:fJ c p y) :
  (c.setAt p y).aZ q/\bD (c.setAt p y) q=bD c q/\(c.setAt p y).at q=c.at q/\∀(w':World),aR w' v (c.setAt p y) q=aR w' v c q/\aJ w' v (c.setAt p y) q=aJ w' v c q:=by
 have V:p≠[]:=by rintro rfl;simp[apart] at ha
 have Y:q≠[]:=by rintro rfl;cases p<;>simp[apart] at ha
 cases c<;>try exact hp.elim
 case row z l=>exact absurd hp V
 case o x =>
  obtain⟨h1,h2,h3⟩:=x8 p q h hp hq ha ag;rw[D.oR h V];refine⟨h1,rfl,?_,fun w'=>?_⟩
  ·rw[EV (uC h V y) Y,D.nO h Y,h2]
  ·obtain⟨a1,a2⟩:=iG h w' q
   obtain⟨b1,b2⟩:=sD (uC h V y) w' v q;rw[a1,a2,b1,b2];exact h3 w' v
 case box l =>
  obtain⟨_,b,cs,e,Fs,h1,h2,h3,h4,h5,h6,h7⟩:=h;cases p with
  | nil=>exact absurd rfl V
  | cons s p =>
  cases q with
  | nil=>exact absurd rfl Y
  | cons t q =>
  obtain⟨i,off⟩:=s;obtain⟨i',off'⟩:=t;obtain⟨rfl,ho,hp⟩:=hp;obtain⟨rfl,bg,hq⟩:=hq;have ad:∀y',(D.box l).fw 0 off y'=.box (l.set off y'):=fun _=>rfl
  have I:∀(l:List D) off,(D.box l).aY 0 off=l.getD off .dead:=fun _ _=>rfl
  have ab:∀w' y',cG w' v (.box (l.set off y')) 0 off'=cG w' v (.box l) 0 off':=fun _ _=>rfl
  have a8:∀l',bD (.box l') ((0,off')::q)=bD (.box l) ((0,off')::q):=by intro l';cases q<;>rfl
  by_cases a6:off=off'
  ·subst a6
   have ao:apart p q=true:=by simpa[apart] using ha
   cases p with
   | nil=>simp[apart] at ao
   | cons s' p =>
   cases q with
   | nil=>simp[apart] at ao
   | cons t' q =>
   simp only at hp hq;split at hp
   ·rename_i y0 W
    rw[W] at hq
    have ax:l[off]?=some (.o y0):=by
     rw[List.getElem?_eq_getElem ho];rw[List.getD_eq_getElem?_getD,List.getElem?_eq_getElem ho] at W;simpa using W
    have S:=h4 off _ ax;simp only[ca] at S;simp only[fJ,W,D.un] at ag;obtain⟨j1,j2,j3⟩:=x8 (s'::p) (t'::q) S hp hq ao ag
    have bF:(D.box l).setAt ((0,off)::s'::p) y=.box (l.set off (.o (y0.setAt (s'::p) y))):=by
     rw[D.setAt,ad,I,W,D.oR S (by simp)]
    have Z:(l.set off (.o (y0.setAt (s'::p) y))).getD off .dead=.o (y0.setAt (s'::p) y):=by
     rw[List.getD_eq_getElem?_getD,List.getElem?_set_self ho,Option.getD_some]
    have a7:=uC S (p:=s'::p) (by simp) y;rw[bF];refine⟨⟨rfl,by simpa using ho,?_⟩,rfl,?_,fun w'=>?_⟩
    ·simp only[Z];exact j1
    ·simp only[D.at]
     rw[I,I,Z,W];have:=j2;rw[<-EV a7 (by simp),<-D.nO S (by simp)] at this;exact this
    ·have ev:∀u,aR w' u (.o (y0.setAt (s'::p) y)) (t'::q)=aR w' u (.o y0) (t'::q)/\aJ w' u (.o (y0.setAt (s'::p) y)) (t'::q)=aJ w' u (.o y0) (t'::q):=by
      intro u;obtain⟨b1,b2⟩:=sD a7 w' u (t'::q);obtain⟨a1,a2⟩:=sD S.un.1 w' u (t'::q);rw[a1,a2,b1,b2];exact j3 w' u
     constructor
     ·rw[aR,aR,ab,I,I,Z,W]
      congr 1;funext u;exact(ev u).1
     ·rw[aJ,aJ,ab,I,I,Z,W]
      ·congr 1;funext u;exact(ev u).2
      all_goals simp
   ·exact hp.elim
  ·have hg:∀y',(l.set off y').getD off' .dead=l.getD off' .dead:=by
    intro y';rw[List.getD_eq_getElem?_getD,List.getElem?_set_ne a6,<-List.getD_eq_getElem?_getD]
   simp only[D.setAt];rw[ad];generalize(D.box l |>.aY 0 off).setAt p y=y';refine⟨⟨rfl,by simpa using bg,?_⟩,a8 _,?_,fun w'=>⟨?_,?_⟩⟩
   ·cases q with
    | nil=>trivial
    | cons t' q=>simp only[hg];exact hq
   ·simp only[D.at];rw[I,I,hg]
   ·simp only[aR];rw[ab,I,I,hg]
   ·cases q with
    | nil=>rfl
    | cons t' q=>simp only[aJ];rw[ab,I,I,hg]
theorem Bz{y:D}:∀(p q:Path){v:Value}{x:D}{F:Nat->Prop},aq w A v x F->x.has p->x.has q->q.length<=p.length->dY x p y ->
  (x.setAt p y).has q/\∀(w':World)(V:Value),aR w' V (x.setAt p y) q=aR w' V x q/\aJ w' V (x.setAt p y) q=aJ w' V x q
 | _,[],_,_,_,_,_,_,_,_=>⟨trivial,fun _ _=>⟨rfl,rfl⟩⟩
 | [],_::_,_,_,_,_,_,_,hl,_=>by simp at hl
 | (i,off)::p,(i',off')::q,v,x,F,h,hp,Y,hl,W=>by
  obtain⟨e1,e2,e3,e4⟩:=lY h i off;obtain⟨u,F1,F2,g1,g2,_⟩:=h.split (e2.1 hp.1);rw[<-e1] at g2
  have S:x.iW i ((x.aY i off).setAt p y)/\(p≠[]->dY (x.aY i off) p y):=by
   cases p with
   | nil=>simp only[dY,h.un.1] at W;exact⟨W,fun h=>absurd rfl h⟩
   | cons s p =>
    refine⟨z7 (e2.1 hp.1) h.oT ?_,fun _=>W⟩;rw[Bt (by simp) y g2.un.1,e1]
  obtain⟨k1,k2,k3,k4⟩:=G7 h (i:=i) (off:=off) ((x.aY i off).setAt p y) i' off';have ab:=(lY h i' off').1;have ad:=(lY h i' off').2.1;have Z:q.length<=p.length:=by simpa using hl
  simp only[D.setAt];by_cases aK:(i,off)=(i',off')
  ·cases aK
   have I:(x.fw i off ((x.aY i off).setAt p y)).aY i off=(x.aY i off).setAt p y:=by rw[k4];exact G5 h.oT (e2.1 hp.1) S.1
   cases p with
   | nil =>
    have:q=[]:=List.eq_nil_of_length_eq_zero (by simpa using Z);subst this;refine⟨⟨k1.2 Y.1,trivial⟩,fun w' V=>⟨?_,?_⟩⟩
    ·simp only[aR];rw[k2]
    ·simp only[aJ];exact k3 V
   | cons s p =>
   obtain⟨j1,j3⟩:=Bz (s::p) q g2 hp.2 Y.2 Z (S.2 (by simp));refine⟨⟨k1.2 Y.1,by rw[I];exact j1⟩,fun w' V=>⟨?_,?_⟩⟩
   ·simp only[aR]
    rw[k2,I];congr 1;funext u';exact(j3 w' u').1
   ·cases q with
    | nil=>simp only[aJ];exact k3 V
    | cons t q =>
     simp only[aJ];rw[k2,I];congr 1;funext u';exact(j3 w' u').2
  ·have I:(x.fw i off ((x.aY i off).setAt p y)).aY i' off'=x.aY i' off':=by rw[k4,ab];exact G6 h.oT (e2.1 hp.1) (ad.1 Y.1) aK S.1
   refine⟨⟨k1.2 Y.1,by rw[I];exact Y.2⟩,fun w' V=>⟨?_,?_⟩⟩
   ·simp only[aR];rw[k2,I]
   ·cases q with
    | nil=>simp only[aJ];exact k3 V
    | cons t q=>simp only[aJ];rw[k2,I]
theorem qE{R:Value->D->Prop}{c y:D}{p q:Path}(h:aN w A R v F c)(hp:c.aZ p)(ag:p≠[])(hq:c.aZ q)(hl:q.length<=p.length)(ao:fJ c p y) :
  (c.setAt p y).aZ q/\(∀(w':World),aR w' v (c.setAt p y) q=aR w' v c q/\aJ w' v (c.setAt p y) q=aJ w' v c q)/\((q.length<p.length\/(bD c p=true->y.iT=true))->c.ew q->(c.setAt p y).ew q):=by
 cases c<;>try exact hp.elim
 case row z l=>exact absurd hp ag
 case o x =>
  have a6:=uC h ag y;rw[D.oR h ag];have bg:∀z,bD (.o z) q=false:=fun z=>by cases q<;>rfl
  have key:(x.setAt p y).has q/\∀w',aR w' v (.o (x.setAt p y)) q=aR w' v (.o x) q/\aJ w' v (.o (x.setAt p y)) q=aJ w' v (.o x) q:=by
   obtain⟨h1,h3⟩:=Bz p q h hp hq hl ao;refine⟨h1,fun w'=>?_⟩;obtain⟨a1,a2⟩:=iG h w' q;obtain⟨b1,b2⟩:=sD a6 w' v q;rw[a1,a2,b1,b2];exact h3 w' v
  exact⟨key.1,key.2,fun _ _=>⟨key.1,fun hh=>by rw[bg] at hh;cases hh⟩⟩
 case box l =>
  obtain⟨_,b,cs,e,Fs,h1,h2,h3,h4,h5,h6,h7⟩:=h;cases p with
  | nil=>exact absurd rfl ag
  | cons s p =>
  obtain⟨i,off⟩:=s;obtain⟨rfl,ho,hp⟩:=hp;have ab:∀y',(D.box l).fw 0 off y'=.box (l.set off y'):=fun _=>rfl
  have I:∀(l:List D) off,(D.box l).aY 0 off=l.getD off .dead:=fun _ _=>rfl
  cases q with
  | nil =>
   simp only[D.setAt];rw[ab];exact⟨trivial,fun w'=>⟨rfl,rfl⟩,fun _ _=>⟨trivial,fun hh=>by cases hh⟩⟩
  | cons t q =>
  obtain⟨i',off'⟩:=t;obtain⟨rfl,bT,hq⟩:=hq;have W:∀w' y',cG w' v (.box (l.set off y')) 0 off'=cG w' v (.box l) 0 off':=fun _ _=>rfl
  have bF:∀l',bD (.box l') ((0,off')::q)=bD (.box l) ((0,off')::q):=by intro l';cases q<;>rfl
  by_cases a8:off=off'
  ·subst a8
   cases p with
   | nil =>
    have:q=[]:=List.eq_nil_of_length_eq_zero (by simpa using hl);subst this;have ax:(D.box l).setAt [(0,off)] y=.box (l.set off y):=rfl;rw[ax];have hC:(D.box (l.set off y)).aZ [(0,off)]:=⟨rfl,by simpa using ho,trivial⟩;refine⟨hC,fun w'=>⟨?_,rfl⟩,fun hy hs=>⟨hC,fun _=>?_⟩⟩
    ·simp only[aR];rw[W]
    ·have e1:(D.box (l.set off y)).at [(0,off)]=y:=by
      show(l.set off y).getD off .dead=y;rw[List.getD_eq_getElem?_getD,List.getElem?_set_self ho,Option.getD_some]
     rw[e1];exact hy.resolve_left (by simp) rfl
   | cons Y p =>
   simp only at hp;split at hp
   ·rename_i Z V
    have a7:l[off]?=some (.o Z):=by
     rw[List.getElem?_eq_getElem ho];rw[List.getD_eq_getElem?_getD,List.getElem?_eq_getElem ho] at V;simpa using V
    have S:=h4 off _ a7;simp only[ca] at S;simp only[fJ,V,D.un] at ao
    have ax:(D.box l).setAt ((0,off)::Y::p) y=.box (l.set off (.o (Z.setAt (Y::p) y))):=by
     rw[D.setAt,ab,I,V,D.oR S (by simp)]
    have ad:(l.set off (.o (Z.setAt (Y::p) y))).getD off .dead=.o (Z.setAt (Y::p) y):=by
     rw[List.getD_eq_getElem?_getD,List.getElem?_set_self ho,Option.getD_some]
    have a6:=uC S (p:=Y::p) (by simp) y;rw[ax];cases q with
    | nil =>
     have hC:(D.box (l.set off (.o (Z.setAt (Y::p) y)))).aZ [(0,off)]:=⟨rfl,by simpa using ho,trivial⟩;refine⟨hC,fun w'=>⟨?_,rfl⟩,fun _ _=>⟨hC,fun _=>?_⟩⟩
     ·simp only[aR];rw[W]
     ·have e1:(D.box (l.set off (.o (Z.setAt (Y::p) y)))).at [(0,off)]=.o (Z.setAt (Y::p) y):=ad
      rw[e1];rfl
    | cons t' q =>
    simp only at hq;rw[V] at hq;obtain⟨j1,j3⟩:=Bz (Y::p) (t'::q) S hp hq (by simpa using hl) ao
    have hC:(D.box (l.set off (.o (Z.setAt (Y::p) y)))).aZ ((0,off)::t'::q):=by
     refine⟨rfl,by simpa using ho,?_⟩;simp only[ad];exact j1
    refine⟨hC,fun w'=>?_,fun _ _=>⟨hC,fun hh=>by cases hh⟩⟩
    have ev:∀u,aR w' u (.o (Z.setAt (Y::p) y)) (t'::q)=aR w' u (.o Z) (t'::q)/\aJ w' u (.o (Z.setAt (Y::p) y)) (t'::q)=aJ w' u (.o Z) (t'::q):=by
     intro u;obtain⟨b1,b2⟩:=sD a6 w' u (t'::q);obtain⟨a1,a2⟩:=sD S.un.1 w' u (t'::q);rw[a1,a2,b1,b2];exact j3 w' u
    constructor
    ·rw[aR,aR,W,I,I,ad,V]
     congr 1;funext u;exact(ev u).1
    ·rw[aJ,aJ,W,I,I,ad,V]
     ·congr 1;funext u;exact(ev u).2
     all_goals simp
   ·exact hp.elim
  ·have hg:∀y',(l.set off y').getD off' .dead=l.getD off' .dead:=by
    intro y';rw[List.getD_eq_getElem?_getD,List.getElem?_set_ne a8,<-List.getD_eq_getElem?_getD]
   simp only[D.setAt];rw[ab];generalize(D.box l |>.aY 0 off).setAt p y=y'
   have hC:(D.box (l.set off y')).aZ ((0,off')::q):=by
    refine⟨rfl,by simpa using bT,?_⟩;cases q with
    | nil=>trivial
    | cons t' q=>simp only[hg];exact hq
   refine⟨hC,fun w'=>⟨?_,?_⟩,fun _ hs=>⟨hC,fun hh=>?_⟩⟩
   ·simp only[aR];rw[W,I,I,hg]
   ·cases q with
    | nil=>rfl
    | cons t' q=>simp only[aJ];rw[W,I,I,hg]
   ·rw[bF] at hh
    have:=hs.2 hh;simp only[D.at] at this|-
    rw[I] at this|-
    rw[hg];exact this
end
end Go.D3
namespace Go.D3
open Go
theorem nZ(x:D):∀(p q:Path),x.has (p++q)↔x.has p/\(x.at p).has q:=by
 intro p;induction p generalizing x with
 | nil=>intro q;simp[D.has,D.at]
 | cons s p I=>intro q;obtain⟨i,off⟩:=s;simp only[List.cons_append,D.has,D.at,I,and_assoc]
theorem aba(w:World):∀(p q:Path)(v:Value)(x:D),aR w v x (p++q)=(aR w v x p).bind fun u=>aR w u (x.at p) q:=by
 intro p;induction p with
 | nil=>intro q v x;rfl
 | cons s p I =>
  intro q v x;obtain⟨i,off⟩:=s;simp only[List.cons_append,aR,D.at,I];cases cG w v x i off<;>rfl
theorem sP(w:World):∀(p q:Path)(v:Value)(x:D),q≠[]->aJ w v x (p++q)=(aR w v x p).bind fun u=>aJ w u (x.at p) q:=by
 intro p;induction p with
 | nil=>intro q v x _;rfl
 | cons s p S =>
  intro q v x I;obtain⟨i,off⟩:=s;have:p++q≠[]:=by simp[I]
  have e:aJ w v x ((i,off)::(p++q))=(cG w v x i off).bind fun u=>aJ w u (x.aY i off) (p++q):=by
   cases h:p++q with
   | nil=>exact absurd h this
   | cons t r=>rfl
  rw[List.cons_append,e];simp only[aR,D.at];cases cG w v x i off with
  | none=>rfl
  | some u=>simp only[Option.bind_some];exact S q u _ I
def ir:Path->Path->Bool
 | _,[]=>false
 | [],_::_=>true
 | _::p,_::q=>ir p q
def kE:Path->Path->Bool
 | [],_=>true
 | _::_,[]=>false
 | _::p,_::q=>kE p q
theorem vP:∀(p q:Path),ir p q=false->q.length<=p.length
 | _,[],_=>by simp
 | [],_::_,h=>by simp[ir] at h
 | _::p,_::q,h=>by simpa using vP p q (by simpa[ir] using h)
theorem Gy:∀(p q:Path),kE p q=false->q.length<p.length
 | [],_,h=>by simp[kE] at h
 | _::_,[],_=>by simp
 | _::p,_::q,h=>by simpa using Gy p q (by simpa[kE] using h)
def bP(k:Nat)(p:Path):D->Bool
 | .sub j q=>j == k&&ir p q
 | .aG j q=>j == k&&ir p q
 | _=>false
def bB(k:Nat)(p:Path):D->Bool
 | .sub j q=>j == k&&kE p q
 | .aG j q=>j == k&&ir p q
 | _=>false
theorem AP{k:Nat}{p q:Path}(h:bP k p (.sub k q)=false):q.length<=p.length:=vP p q (by simpa[bP] using h)
theorem AO{k:Nat}{p q:Path}(h:bP k p (.aG k q)=false):q.length<=p.length:=vP p q (by simpa[bP] using h)
theorem wU{k:Nat}{p q:Path}(h:bB k p (.sub k q)=false):q.length<p.length:=Gy p q (by simpa[bB] using h)
theorem AQ{k:Nat}{p q:Path}(h:bB k p (.aG k q)=false):q.length<=p.length:=vP p q (by simpa[bB] using h)
theorem GF:∀{p I:Path},p.length=I.length->∀q,ir p q=ir I q
 | [],[],_,q=>rfl
 | _::p,_::I,h,[]=>rfl
 | _::p,_::I,h,_::q=>by simpa[ir] using GF (by simpa using h) q
theorem Gx:∀{p I:Path},p.length=I.length->∀q,kE p q=kE I q
 | [],[],_,q=>rfl
 | _::p,_::I,h,[]=>rfl
 | _::p,_::I,h,_::q=>by simpa[kE] using Gx (by simpa using h) q
theorem IZ{p I:Path}(h:p.length=I.length)(k:Nat):bB k p=bB k I:=by
 funext d;cases d<;>simp only[bB,GF h,Gx h]
def dp(c:D)(p:Path):D:=if bD c p=true then .o .dead else .dead
theorem tP{c:D}{p:Path}(hp:c.aZ p)(I:p≠[]):fJ c p (dp c p):=by
 unfold dp;split
 ·rename_i S
  cases c<;>try exact hp.elim
  case o x=>cases p<;>cases S
  case row=>exact absurd hp I
  case box l =>
   cases p with
   | nil=>exact absurd rfl I
   | cons s p=>cases p with
    | nil=>trivial
    | cons t p=>cases S
 ·exact TC hp I
theorem GH{c:D}{p r:Path}(h:c.aZ (p++r)):c.aZ p:=by
 cases c<;>try exact h.elim
 case o x=>exact((nZ x p r).1 h).1
 case row z l=>exact List.append_eq_nil_iff.1 h |>.1
 case box l =>
  cases p with
  | nil=>trivial
  | cons s p =>
   obtain⟨i,off⟩:=s;cases p with
   | nil=>exact⟨h.1,h.2.1,trivial⟩
   | cons t p =>
    have h:(D.box l).aZ ((i,off)::t::(p++r)):=h;obtain⟨h1,S,I⟩:=h;refine⟨h1,S,?_⟩;simp only at I|-
    split at I
    ·rename_i y V
     exact((nZ y (t::p) r).1 I).1
    ·exact I.elim
section
variable{w:World}{A:Nat->Prop}{R:Value->D->Prop}{v:Value}{c:D}{F:Nat->Prop}
theorem Wu(h:aN w A R v F c){p:Path}{s:Nat×Nat}(hp:c.aZ (p++[s]))(S:p≠[]):(bD c p=true->(c.at p).iT=true)/\(c.bm p).lW s.1 s.2:=by
 cases c<;>try exact hp.elim
 case row z l=>exact absurd (List.append_eq_nil_iff.1 hp).1 S
 case o x =>
  refine⟨fun Z=>(by cases p<;>cases Z),?_⟩;obtain⟨h1,h2⟩:=(nZ x p [s]).1 hp;obtain⟨_,_,_,g1,g2,_⟩:=aq.splitAt p h h1;unfold D.bm;rw[D.nO h S,g2.un.1];exact h2.1
 case box l =>
  obtain⟨_,b,cs,e,Fs,h1,h2,h3,h4,h5,h6,h7⟩:=h;cases p with
  | nil=>exact absurd rfl S
  | cons t p =>
   obtain⟨i,off⟩:=t;obtain⟨rfl,ho,hp⟩:=hp;have Y:∀off,(D.box l).aY 0 off=l.getD off .dead:=fun _=>rfl
   have key:∀q:Path,(match p++[s] with | []=>True | s::p=>match l.getD off .dead with | .o y=>y.has (s::p) | _=>False)->∃y,l.getD off .dead=.o y/\y.has (p++[s]):=by
    intro _ hp;cases hps:p++[s] with
    | nil=>simp at hps
    | cons a r =>
     rw[hps] at hp;simp only at hp;split at hp
     ·rename_i y V;exact⟨y,V,hp⟩
     ·exact hp.elim
   obtain⟨y,V,ab⟩:=key [] hp;obtain⟨k1,k2⟩:=(nZ y p [s]).1 ab
   have W:l[off]?=some (.o y):=by
    rw[List.getD_eq_getElem?_getD,List.getElem?_eq_getElem ho] at V;rw[List.getElem?_eq_getElem ho];simpa using V
   have I:=h4 off _ W;simp only[ca] at I;cases p with
   | nil =>
    have e:(D.box l).at [(0,off)]=.o y:=V;refine⟨fun _=>by rw[e];rfl,?_⟩;unfold D.bm;rw[e];exact k2.1
   | cons t p =>
    refine⟨fun Z=>(by cases Z),?_⟩;obtain⟨_,_,_,g1,g2,_⟩:=aq.splitAt (t::p) I k1
    have e:(D.box l).at ((0,off)::t::p)=y.at (t::p):=by
     rw[D.at,Y,V,D.nO I (by simp)]
    unfold D.bm;rw[e,g2.un.1];exact k2.1
theorem Iv{u:Value}{F1:Nat->Prop}{p:Path}(g2:gh w A R u F1 (bD c p) (c.at p))(S:bD c p=true->(c.at p).iT=true):aq w A u (c.bm p) F1:=by
 unfold gh at g2;split at g2
 ·rename_i V
  obtain⟨y,I⟩:=zq (S V);rw[I] at g2;simp only[D.bm,I,D.un];exact g2
 ·simp only[D.bm]
  rw[g2.un.1];exact g2
theorem It{u:Value}{p:Path}{w':World}{A':Nat->Prop}{R':Value->D->Prop}:gh w' A' R' u (fun _=>False) (bD c p) (dp c p):=by
 unfold gh dp;cases bD c p with
 | true=>exact aq.dead
 | false=>exact aq.dead
theorem HF(h:aN w A R v F c){p:Path}(hp:c.aZ p)(ad:p≠[]){a:Addr}(ha:aJ w v c p=some a){w':World}(hw:∀b,F b->b≠a.block->w'.heap[b]?=w.heap[b]?){q:Path}(hq:c.aZ q) :
  (q.length<p.length->aR w' v c q=aR w v c q)/\(q.length<=p.length->aJ w' v c q=aJ w v c q):=by
 obtain⟨S,s,rfl⟩:∃S s,p=S++[s]:=⟨p.dropLast,p.getLast ad,(List.dropLast_concat_getLast ad).symm⟩
 have short:∀q:Path,c.aZ q->q.length<=S.length->aR w' v c q=aR w v c q:=by
  intro q hq Y;by_cases Z:S=[]
  ·subst Z
   have:q=[]:=List.eq_nil_of_length_eq_zero (by simpa using Y);subst this;rfl
  ·have V:=GH hp
   obtain⟨hS,hk⟩:=Wu h hp Z;obtain⟨u,F1,F2,g1,g2,g3,g4,g5,g6,_⟩:=h.splitAt V Z;have I:=Iv g2 hS
   have ag:F1 a.block:=by
    rw[sP w S [s] v c (by simp),g1,Option.bind_some] at ha;obtain⟨i,off⟩:=s
    have ab:dI u (c.bm S) i off=some a:=by
     have:dI u (c.at S) i off=dI u (c.bm S) i off:=by
      unfold D.bm dI;by_cases hh:∃z,c.at S=.o z
      ·obtain⟨z,hz⟩:=hh
       rw[hz];have:(D.o z).un=z:=rfl;rw[this];unfold D.bm at I;rw[hz] at I;have a1:z.un=z:=I.un.1;rw[a1]
      ·have:(c.at S).un=c.at S:=by
        generalize c.at S=z at hh|-
        cases z<;>first | rfl | exact absurd ⟨_,rfl⟩ hh
       rw[this,this]
     rw[<-this];exact ha
    obtain⟨e1,e2,e3,e4⟩:=lY I i off;obtain⟨u',G1,G2,k1,k2,k3,k4,k5,k6,k7⟩:=I.split (e2.1 hk);rw[e3] at ab;exact k4 _ (k7 a ab).1
   have ao:aN w A R v F2 (c.setAt S (dp c S)):=g6 w A R (fun _=>True) _ (fun _=>False) F2 (fun _ h=>h) (fun _ _=>rfl) (fun _ _=>rfl) It (fun _ h=>h.elim) (tP V Z) (fun _ h=>h.elim) (fun _ h=>h) (bw (fun _=>trivial) _) (fun _ _ _ h=>h);obtain⟨j1,j2,_⟩:=qE h V Z hq Y (tP V Z);have:=(ig (w':=w') ao j1 fun b hb=>hw b (g4 b hb) (by rintro rfl;exact g5 _ ag hb)).1;rw[(j2 w').1,(j2 w).1] at this;exact this
 refine⟨fun Y=>short q hq (by simp at Y;omega),fun Y=>?_⟩;cases hq0:q with
 | nil=>rfl
 | cons t r =>
  have W:q≠[]:=by rw[hq0];simp
  rw[<-hq0];obtain⟨q0,t',ax⟩:∃q0 t',q=q0++[t']:=⟨q.dropLast,q.getLast W,(List.dropLast_concat_getLast W).symm⟩;rw[ax] at hq Y|-
  rw[sP w' q0 [t'] v c (by simp),sP w q0 [t'] v c (by simp),short q0 (GH hq) (by simp at Y;omega)];rfl
end
section
variable{cx:Ctx}{ct:Nat->D}{vl:Nat->Value}{fp:Nat->Nat->Prop}{G:Nat->Prop}{w:World}
theorem Hp.take[Mode](h:Hp cx ct vl fp G w){k:Nat}{p:Path}(ad:(ct k).ew p)(I:p≠[])(hrefs:∀j,(ct j).refs fun d=>bP k p d=false) :
  ∃(u:Value)(F1 F2:Nat->Prop),aR w (vl k) (ct k) p=some u/\aq w (ak cx fp G w) u ((ct k).bm p) F1/\(∀b,F1 b->fp k b) /\
   Hp cx (az ct k ((ct k).setAt p (dp (ct k) p))) vl (az fp k F2) (fun b=>G b\/F1 b) w/\(∀b,F2 b->fp k b)/\∀d,bP k p d=false->cX w w ct (az ct k ((ct k).setAt p (dp (ct k) p))) vl vl d:=by
 obtain⟨hp,ab⟩:=ad;obtain⟨u,F1,F2,g1,g2,g3,g4,g5,g6,g7⟩:=(h.ok k).splitAt hp I;have W:=Iv g2 ab;have S:=tP hp I
 obtain⟨r1,r2⟩:=h.change (fun d=>bP k p d=false) (Bu hp I _) (g6 w (ak cx fp G w) _ (fun _=>True) (dp (ct k) p) (fun _=>False) F2 (fun _ h=>h) (fun _ _=>rfl) (fun _ _=>rfl) It (fun _ h=>h.elim) S (fun _ h=>h.elim) (fun _ h=>h) (bw (fun _=>trivial) _) (fun _ _ _ h=>h))
  (fun j _=>hrefs j) (ux (h.ok k) hp I (hrefs k) fun Z=>by unfold dp;rw[if_pos Z];trivial) (fun b V=>.inl (g4 b V)) (G':=fun b=>G b\/F1 b) (fun b V=>V.elim .inr fun h=>.inl (g3 b h)) (fun b V hg=>hg.elim (h.cK k b (g4 b V)) fun h=>g5 b h V)
  rfl (fun _ _=>rfl) rfl rfl (.of rfl rfl)
  (fun q hq Y=>by
    obtain⟨j1,j2,j3⟩:=qE (h.ok k) hp I Y.1 (AP hq) S
    exact⟨j3 (.inr fun Z=>by unfold dp;rw[if_pos Z];rfl) Y,(j2 w).1⟩)
  (fun q hq Y=>by
    obtain⟨j1,j2,j3⟩:=qE (h.ok k) hp I Y (AO hq) S
    exact⟨j1,(j2 w).2⟩)
 exact⟨u,F1,F2,g1,W,g3,r1,g4,r2⟩
theorem Hp.fill[Mode](h:Hp cx ct vl fp G w){k:Nat}{p:Path}(ao:(ct k).ew p)(I:p≠[]){u:Value}(hu:aR w (vl k) (ct k) p=some u){y:D}{Z G':Nat->Prop}(hy:aq w (ak cx fp G w) u y Z)(ab:y.isAgg=false)
  (hF:∀b,Z b->G b) (hG:∀b,G' b->G b) (ad:∀b,Z b->¬G' b) (hrefs:∀j,(ct j).refs fun d=>bP k p d=false) :
  Hp cx (az ct k ((ct k).setAt p (if bD (ct k) p=true then .o y else y))) vl (az fp k fun b=>fp k b\/Z b) G' w/\∀d,bP k p d=false->cX w w ct (az ct k ((ct k).setAt p (if bD (ct k) p=true then .o y else y))) vl vl d:=by
 obtain⟨hp,ax⟩:=ao;obtain⟨u',F1,F2,g1,g2,g3,g4,g5,g6,g7⟩:=(h.ok k).splitAt hp I;rw[hu] at g1;injection g1 with g1
 subst g1
 have W:fJ (ct k) p (if bD (ct k) p=true then .o y else y):=by
  have S:∀(p:Path)(x:D)(y:D),y.isAgg=false->dY x p y:=by
   intro p;induction p with
   | nil=>intro x y _;trivial
   | cons s p ih =>
    intro x y hy;cases p with
    | nil =>
     simp only[dY];generalize x.un=z;cases z<;>first | trivial | exact .inr hy
    | cons t p=>exact ih _ y hy
  revert hp;cases ct k<;>intro hp<;>try exact hp.elim
  case row=>exact absurd hp I
  case o x =>
   have:bD (.o x) p=false:=by cases p<;>rfl
   rw[if_neg (by rw[this];simp)];exact S p x y ab
  case box l =>
   cases p with
   | nil=>exact absurd rfl I
   | cons s p=>cases p with
    | nil=>trivial
    | cons t p=>exact S (t::p) _ y ab
 have Y:gh w (ak cx fp G w) (ai w ct vl) u Z (bD (ct k) p) (if bD (ct k) p=true then .o y else y):=by
  unfold gh;cases bD (ct k) p with
  | true=>exact hy
  | false=>exact hy
 refine h.change (fun d=>bP k p d=false) (Bu hp I _) (g6 w (ak cx fp G w) _ (fun _=>True) _ Z _ (fun _ h=>h) (fun _ _=>rfl) (fun _ _=>rfl) Y (fun b V ag=>h.cK k b (g4 b ag) (hF b V)) W (fun _ h=>.inr h) (fun b V=>.inl (g4 b V)) (bw (fun _=>trivial) _) (fun _ _ _ h=>h))
  (fun j _=>hrefs j) (ux (h.ok k) hp I (hrefs k) fun hl=>by rw[if_pos hl];trivial) (fun b V=>V.imp id (hF b)) (fun b V=>.inr (hG b V)) (fun b V hg=>V.elim (fun h'=>h.cK k b h' (hG b hg)) fun h'=>ad b h' hg)
  rfl (fun _ _=>rfl) rfl rfl (.of rfl rfl)
  (fun q hq hs=>by
    obtain⟨j1,j2,j3⟩:=qE (h.ok k) hp I hs.1 (AP hq) W
    exact⟨j3 (.inr fun hl=>by rw[if_pos hl];rfl) hs,(j2 w).1⟩)
  (fun q hq hs=>by
    obtain⟨j1,j2,j3⟩:=qE (h.ok k) hp I hs (AO hq) W
    exact⟨j1,(j2 w).2⟩)
theorem Hp.store[Mode](h:Hp cx ct vl fp G w){k:Nat}{p:Path}(hp:(ct k).aZ p)(V:p≠[]){a:Addr}(ha:aJ w (vl k) (ct k) p=some a){Y:Value}{y:D}{Z G':Nat->Prop}
  (hy:gh w (ak cx fp G w) (ai w ct vl) Y Z (bD (ct k) p) y) (hd:fJ (ct k) p y) (hrefs:∀j,(ct j).refs fun d=>bB k p d=false) (ao:bD (ct k) p=true->y.refs fun d=>bB k p d=false)
  (hF:∀b,Z b->G b) (hG:∀b,G' b->G b) (ad:∀b,Z b->¬G' b) :
  (∃u,w.cell? a=some u)/\w.frozen? a=false/\a.spot=none/\Hp cx (az ct k ((ct k).setAt p y)) vl (az fp k fun b=>fp k b\/Z b) G' (w.setCell a Y) /\
    ∀d,bB k p d=false->cX w (w.setCell a Y) ct (az ct k ((ct k).setAt p y)) vl vl d:=by
 obtain⟨u,F1,F2,g1,g2,g3,g4,g5,g6,g7⟩:=(h.ok k).splitAt hp V;obtain⟨j1,j2,j3,ax,j4⟩:=g7 a ha;refine⟨⟨u,j3⟩,ax,j2,?_⟩;have W:fp k a.block:=g4 _ j1;have I:∀b,b≠a.block->(w.setCell a Y).heap[b]?=w.heap[b]?:=fun b S=>Bw Y S
 refine h.change (fun d=>bB k p d=false) (Bu hp V _) (j4 Y (w.setCell a Y) (ak cx fp G w) (ai w ct vl) (fun _=>True) y Z (fun b=>fp k b\/Z b) (fun _ h=>h) (fun b S=>I b (by rintro rfl;exact S.2.2 k W)) (fun b _ V=>I b V) rfl ?_ ?_ hd (fun _ h=>.inr h) (fun b S=>.inl (g4 b S)) (bw (fun _=>trivial) _) (fun _ _ _ h=>h))
  (fun j _=>hrefs j) (ux (h.ok k) hp V (hrefs k) ao) (fun b S=>S.imp id (hF b)) (fun b S=>.inr (hG b S)) (fun b S hg=>S.elim (fun h'=>h.cK k b h' (hG b hg)) fun h'=>ad b h' hg)
  (by simp) (fun b S=>I b (by rintro rfl;exact S W)) rfl rfl (.of rfl rfl)
  (fun q hq hs=>by
    obtain⟨i1,i2,i3⟩:=qE (h.ok k) hp V hs.1 (Nat.le_of_lt (wU hq)) hd;obtain⟨m1,_⟩:=HF (h.ok k) hp V ha (w':=w.setCell a Y) (fun b _ S=>I b S) hs.1
    exact⟨i3 (.inl (wU hq)) hs,by rw[(i2 _).1];exact m1 (wU hq)⟩)
  (fun q hq hs=>by
    obtain⟨i1,i2,i3⟩:=qE (h.ok k) hp V hs (AQ hq) hd;obtain⟨_,m2⟩:=HF (h.ok k) hp V ha (w':=w.setCell a Y) (fun b _ S=>I b S) hs
    exact⟨i1,by rw[(i2 _).2];exact m2 (AQ hq)⟩)
 ·have ab:∀b,Z b->b≠a.block:=by rintro b S rfl;exact h.cK k _ W (hF _ S)
  have aK:∀b,ak cx fp G w b->b≠a.block:=by rintro b S rfl;exact S.2.2 k W
  unfold gh at hy|-
  split
  ·rename_i hl
   rw[hl] at hy;exact hy.mono (Q:=fun _=>True) (fun _ h=>h) (fun b S=>I b (aK b S)) (fun b S=>I b (ab b S)) (fun _ h=>h) (bw (fun _=>trivial) _) (fun _ _ _ h=>h)
  ·rename_i hl
   rw[hl] at hy;exact hy.mono (fun _ h=>h) (fun b S=>I b (aK b S)) (fun b S=>I b (ab b S)) (fun _ h=>h)
 ·intro b S ag
  exact h.cK k b (g4 b ag) (hF b S)
end
end Go.D3
namespace Go.D3
open Go
inductive Arg where
 | v (x:D)
 | own (x:D)
 | io (x y:D)
def Arg.pre(w:World)(A:Nat->Prop)(v:Value)(F:Nat->Prop):Arg->Prop
 | .v x=>Rd w A v x/\∀b,¬F b
 | .own x=>aq w A v x F
 | .io x _=>aN w A (fun _ _=>False) v F x
def Arg.post(w:World)(A:Nat->Prop)(v:Value)(F:Nat->Prop):Arg->Prop
 | .io _ y=>aN w A (fun _ _=>False) v F y
 | _=>∀b,¬F b
def aA[Mode](P:Program)(f:FuncId)(as:List Arg)(res:D):Prop :=
 ∀(w:World)(A:Nat->Prop)(vs:Array Value)(Fs:Nat->Nat->Prop),ik w A->(∀b,A b->b<w.heap.size)->vs.size=as.length->(∀(j:Nat)(a:Arg),as[j]?=some a->a.pre w A (vs.getD j undef) (Fs j)) ->
  (∀i j b,i≠j->Fs i b->¬Fs j b)->(∀j b,Fs j b->b<w.heap.size/\¬A b/\j<as.length) ->
  Calls P f vs w fun e w'=>∃(v:Value)(F:Nat->Prop)(I:Nat->Nat->Prop),e=.returned v/\w.heap.size<=w'.heap.size /\
   aq w' (fun b=>A b\/(w.heap.size<=b/\b<w'.heap.size/\¬F b/\∀j,¬I j b)) v res F /\
   (∀(j:Nat)(a:Arg),as[j]?=some a->a.post w' (fun b=>A b\/(w.heap.size<=b/\b<w'.heap.size/\¬F b/\∀j,¬I j b)) (vs.getD j undef) (I j)) /\
   (∀b,F b->b<w'.heap.size/\(w.heap.size<=b\/∃j,Fs j b)/\∀j,¬I j b)/\(∀j b,I j b->b<w'.heap.size/\(w.heap.size<=b\/∃j,Fs j b)/\j<as.length)/\(∀i j b,i≠j->I i b->¬I j b) /\
   (∀b,b<w.heap.size->(∀j,¬Fs j b)->w'.heap[b]?=w.heap[b]?)/\w'.os=w.os/\w'.tape=w.tape/\c6 w w'
inductive X where
 | t (i:Nat)
 | v (j:Nat)
 | i (n:Int)
 | k (d:D)
 | g (n:Nat)
 deriving Inhabited
inductive Kp where
 | mv (x:X)
 | pick (c a b:X)
 | bin (op:BinOp) (x y:X)
 | not (x:X)
 | conv(k:IntKind) (x:X)
 | len (x:X)
 | rK (x:X)
 | aB (sz:Nat) (x i:X)
 | ld (a:X)
 | dz (n:Nat) (a:X)
 | fA (off:Nat) (a:X)
 | ru (off:Nat) (x:X)
 | iP (zs:List D) (parts:List (Nat×Nat×X))
 | rC (x i:X)
 | ext (i:Nat) (x:X)
 | oo (x:X)
 | eqs (neg:Bool) (ks:List Nat) (x y:X)
 | qF (x:X) (lo hi:Option X)
 | sl (x:X) (lo hi:Option X)
 | rO (f:FuncId) (caps:List X)
 | call (f:FuncId) (xs:List X)
 | box (n:Nat) (x:X)
 | fP (n:Nat) (x:X)
 | fc (zs:List D)
 | ah (z:D) (bytes:Nat) (l c:X)
 | aU (z:D) (n:Nat) (parts:List (Nat×X))
 | ch (j:Nat) (x:X)
 | kr (j:Nat) (x:X)
 | st (a x:X)
 | eh (n:Nat) (a x:X)
 | mj (n:Nat) (a x:X)
 | app (sz bytes:Nat) (s x:X)
 | jh (f:FuncId) (xs:List X)
 | dyn (x:X) (xs:List X)
 | bo (x:X)
 | my (n:Nat) (x:X)
 | eK (sz bytes b s:Nat)
 | gV
 | pV (ok:Bool) (kk:Nat) (z:D) (m k:X)
 | pS (x:X)
 | ng (kk:Nat) (m k v:X)
 | pA (x:X)
 | rS (neg:Bool) (x:X)
 | e8 (x:X)
 | ni (j:Nat)
 | gM (x:X)
 | mu (z:D) (x:X)
 | ku (j:Nat) (x:X)
 | shr (x y:X)
 | mm (mx:Bool) (x y:X)
 | p7 (neg:Bool) (x:X)
 | rN (t:TypeId) (x:X)
 | mw (z:D) (n:Nat) (parts:List (Nat×X))
 | gU (T e:TypeId) (x:X)
 deriving Inhabited
structure bh where
 g:Option (Nat×Bool)
 k:Kp
 deriving Inhabited
def oL:List Kp->List bh
 | []=>[]
 | k::r=>⟨none,k⟩::oL r
def Kp.m(i:Nat):Kp:=.mv (.v i)
def Kp.n(i:Nat):Kp:=.mv (.t i)
def Kp.a(j i:Nat):Kp:=.ch j (.t i)
inductive RT where
 | leaf (l:List bh) (post:List (Nat×Nat))
 | two (i j:Nat) (pm:List Nat) (a b:RT)
 deriving Inhabited
inductive C where
 | skip
 | ops (pre:List Nat) (l:List bh) (post:List (Nat×Nat))
 | dJ (pre:List Nat) (l:List bh) (post:List (Nat×Nat)) (x:X) (a b:C)
 | wL (pre:List Nat) (l:List bh) (post:List (Nat×Nat)) (x:X) (a b c:C)
 | alt (pre:List Nat) (t:RT)
 | seq (a b:C)
 | cond (x:X) (a b:C)
 | block (id:Nat) (c:C)
 | loop (c:C)
 | exit (id:Nat)
 | ret
 deriving Inhabited
def C.u(l:List Kp):C:=.ops [] (oL l) []
def D.core:D->D
 | .when _ x=>x.core
 | x=>x
def D.gate:D->Bool
 | .when g x=>g&&x.gate
 | _=>true
mutual
def dc(k:Nat)(p:Path):D->D
 | .int a n=>.int a n
 | .bool b=>.bool b
 | .str s=>.str s
 | .bd=>.bd
 | .fn f []=>.fn f []
 | .slice _ _=>.sub k p
 | .mp _ _=>.sub k p
 | .sb _ _ _=>.sub k p
 | .bS=>.bS
 | .bE t x=>.bE t x
 | .bz=>.bz
 | .ptr (_::_)=>.aG k (p++[(0,0)])
 | .agg l=>.agg (kB k p 0 l)
 | .av l=>.av (kB k p 0 l)
 | .vw x=>x
 | _=>.dead
def kB(k:Nat)(p:Path)(j:Nat):List D->List D
 | []=>[]
 | x::r=>dc k (p++[(0,j)]) x::kB k p (j+1) r
end
def cB(k:Nat):D->D
 | .o x=>dc k [] x
 | .box _=>.aG k [(0,0)]
 | .row _ _=>.sub k []
 | c=>c
def pt(k:Nat)(p:Path):D->D
 | .o x=>dc k p x
 | c=>c
def pU(k:Nat)(c:D)(p:Path):D :=
 match bD c p with
 | true=>pt k p (c.at p)
 | false=>dc k p (c.at p)
abbrev PR:=Prop×D
def one(x:D):Option PR:=some (True,x)
def xX(k:IntKind)(a b:Int):Int:=k.wrap (BitVec.ofInt k.bits a &&& BitVec.ofInt k.bits b).toNat
def gR(op:BinOp)(k:IntKind)(a b:Int):Option PR :=
 match op with
 | .add=>some (True,.int k (k.wrap (a+b)))
 | .sub=>some (True,.int k (k.wrap (a-b)))
 | .mul=>some (True,.int k (k.wrap (a*b)))
 | .quo=>some (b≠0,.int k (k.wrap (a.tdiv b)))
 | .rem=>some (b≠0,.int k (a.tmod b))
 | .eql=>some (True,.bool (a == b))
 | .neq=>some (True,.bool (a != b))
 | .lss=>some (True,.bool (decide (a<b)))
 | .leq=>some (True,.bool (decide (a<=b)))
 | .gtr=>some (True,.bool (decide (a > b)))
 | .geq=>some (True,.bool (decide (a>=b)))
 | .and=>some (True,.int k (xX k a b))
 | _=>none
def lr(op:BinOp)(a b:List UInt8):Option PR :=
 match op with
 | .add=>some (a.length+b.length<=maxLen,.str (a++b))
 | .eql=>some (True,.bool (a == b))
 | .neq=>some (True,.bool (!(a == b)))
 | .lss=>some (True,.bool (Op.bytesLess a b))
 | .leq=>some (True,.bool (Op.bytesLess a b || a == b))
 | .gtr=>some (True,.bool (!(Op.bytesLess a b || a == b)))
 | .geq=>some (True,.bool (!Op.bytesLess a b))
 | _=>none
def vi(op:BinOp)(a b:Bool):Option PR :=
 match op with
 | .eql=>some (True,.bool (a == b))
 | .neq=>some (True,.bool (!(a == b)))
 | _=>none
def sU(op:BinOp)(x y:D):Option PR :=
 match x,y with
 | .int k a,.int k' b=>if k=k' then gR op k a b else none
 | .str a,.str b=>lr op a b
 | _,_=>none
def xk(x y:D):Option PR :=
 match x,y with
 | .int k a,.int _ b=>some (0<=b/\b<=k.bits,.int k (a.fdiv (2 ^ b.toNat)))
 | _,_=>none
def nf:Bool->Int->Int->Int
 | true,a,b=>max a b
 | false,a,b=>min a b
def wj(mx:Bool)(x y:D):Option PR :=
 match x,y with
 | .int k a,.int k' b=>if k=k' then some (True,.int k (nf mx a b)) else none
 | _,_=>none
def EZ(op:BinOp)(x y:D):Option PR :=
 match x,y with
 | .bool a,.bool b=>vi op a b
 | _,_=>none
def oB(c a b:Bool):Bool:=match c with | true=>a | false=>b
def wO(V I S:Bool)(c a b:D):Option PR :=
 match c,a,b with
 | .bool cb,.bool x,.bool y=>some (V=true/\(cb=true->I=true)/\(cb=false->S=true),.bool (oB cb x y))
 | _,_,_=>none
def wA(x:D):Option PR :=
 match x with
 | .bool b=>one (.bool (!b))
 | _=>none
def vr(k:IntKind)(x:D):Option PR :=
 match x with
 | .int I a=>one (.int k (if I=k then a else k.wrap a))
 | _=>none
def D.cA:D->Option Nat
 | .slice _ l=>some l.length
 | .aH _=>some 0
 | .row _ l=>some l.length
 | _=>none
def lk(ob:Nat->D)(k:Nat):Option D:=if(ob k).isObj=true then some (ob k) else none
def lZ(ob:Nat->D)(x:D):Option PR :=
 match x with
 | .sub k p=>(lk ob k).bind fun c=>(c.bm p).cA.bind fun n=>one (.int .i64 n)
 | x=>x.cA.bind fun n=>one (.int .i64 n)
def v7(x:D):Option PR :=
 match x with
 | .str s=>one (.int .i64 s.length)
 | _=>none
def D.jM(d:D)(i:Nat):List D :=
 match d with
 | .slice z l=>(l.getD i z).cells
 | _=>[]
def oc(sz:Nat)(ob:Nat->D)(x i:D):Option PR :=
 match i with
 | .int _ n=>match x with
  | .sub k p=>(lk ob k).bind fun c=>match c with
   | .row _ _=>none
   | c=>(c.bm p).cA.bind fun m=>some (0<=n/\n<m/\((c.bm p).jM n.toNat).length=sz,.aG k (p++[(n.toNat,0)]))
  | x=>x.cA.bind fun m=>some (0<=n/\n<m/\(x.jM n.toNat).length=sz,.ptr (x.jM n.toNat))
 | _=>none
def oh(ob:Nat->D)(a:D):Option PR :=
 match a with
 | .ptr (x::_)=>one x
 | .aG k p=>(lk ob k).bind fun c=>one (pU k c p)
 | _=>none
def bump:Path->Nat->Path
 | [],_=>[]
 | [(i,off)],n=>[(i,off+n)]
 | s::p,n=>s::bump p n
def looks(k:Nat)(c:D)(p:Path):Nat->Nat->List D
 | 0,_=>[]
 | n+1,j=>pU k c (bump p j)::looks k c p n (j+1)
def tq(c:D)(p:Path):Nat->Nat->Prop
 | 0,_=>True
 | n+1,j=>c.aZ (bump p j)/\tq c p n (j+1)
def oi(n:Nat)(ob:Nat->D)(a:D):Option PR :=
 match a with
 | .ptr l=>some (n<=l.length,.agg (l.take n))
 | .aG k p=>(lk ob k).bind fun c=>some (tq c p n 0,.agg (looks k c p n 0))
 | _=>none
def nW(off:Nat)(ob:Nat->D)(a:D):Option PR :=
 match a with
 | .ptr l=>one (.ptr (l.drop off))
 | .aG k p=>(lk ob k).bind fun c=>some (c.aZ (bump p off),.aG k (bump p off))
 | _=>none
def vH(off:Nat)(x:D):Option PR :=
 match x with
 | .agg l=>some (off<l.length,l.getD off .dead)
 | _=>none
def Gj(off n:Nat)(x:D):Option PR :=
 match x with
 | .agg l=>some (off+n<=l.length,.agg ((l.drop off).take n))
 | _=>none
def D.cellsOf:D->Option (List D)
 | .agg l=>some l
 | .av _=>none
 | .dead=>none
 | .when _ _=>none
 | .o _=>none
 | .box _=>none
 | .row _ _=>none
 | .vw _=>none
 | x=>some [x]
def setCells(l:List D)(off:Nat):List D->List D
 | []=>l
 | x::r=>setCells (l.set off x) (off+1) r
def nX(rd:X->D):List D->List (Nat×Nat×X)->Option (Bool×List D)
 | cs,[]=>some (true,cs)
 | cs,(off,n,x)::r=>(rd x).core.cellsOf.bind fun l =>
  if l.length=n/\off+n<=cs.length then(nX rd (setCells cs off l) r).bind fun p=>some ((rd x).gate&&p.1,p.2) else none
def vQ(x i:D):Option PR :=
 match x,i with
 | .str s,.int _ n=>some (0<=n/\n<s.length,.int .u8 (s.getD n.toNat 0).toNat)
 | _,_=>none
def vB(i:Nat)(x:D):Option PR :=
 match x with
 | .av l=>some (i<l.length,l.getD i .dead)
 | _=>none
def oq(x:D):Option PR :=
 match x with
 | .ptr l=>one (.ptr l)
 | .aG k p=>one (.aG k p)
 | .fn f caps=>one (.fn f caps)
 | _=>none
def iQ:List Nat->List D->List D->Option Bool
 | [],[],[]=>some true
 | 0::ks,.int k a::l,.int k' b::r=>if k=k' then(iQ ks l r).bind fun y=>some (a == b&&y) else none
 | 1::ks,.bool a::l,.bool b::r=>(iQ ks l r).bind fun y=>some (a == b&&y)
 | 2::ks,.str a::l,.str b::r=>(iQ ks l r).bind fun y=>some (a == b&&y)
 | _,_,_=>none
def vA(neg:Bool)(ks:List Nat)(x y:D):Option PR :=
 match x,y with
 | .agg l,.agg r=>(iQ ks l r).bind fun b=>some (True,.bool (if neg then !b else b))
 | _,_=>none
def D.cut(l h:Nat):D->Option D
 | .slice z x=>some (.slice z ((x.take h).drop l))
 | .aH z=>some (.slice z [])
 | .str x=>some (.str ((x.take h).drop l))
 | _=>none
def D.gN:D->Nat
 | .slice z _=>z.cells.length
 | .aH z=>z.cells.length
 | _=>0
def D.int?:D->Option Int
 | .int _ n=>some n
 | _=>none
def D.oY:D->Option (List UInt8)
 | .str s=>some s
 | _=>none
def lK(rd:X->D)(I:Nat):Option X->Option (Bool×Int)
 | none=>some (true,I)
 | some x=>(rd x).core.int?.bind fun n=>some ((rd x).gate,n)
def BD(rd:X->D)(x:X)(lo hi:Option X):Option PR :=
 (rd x).core.oY.bind fun s=>(lK rd 0 lo).bind fun p=>(lK rd s.length hi).bind fun q =>
   some (((rd x).gate=true/\p.1=true/\q.1=true)/\0<=p.2/\p.2<=q.2/\q.2<=s.length,.str ((s.take q.2.toNat).drop p.2.toNat))
def o7:D->Option X->Option (Nat×Path)
 | .sub k p,none=>some (k,p)
 | _,_=>none
theorem aaK{d:D}{lo:Option X}{k:Nat}{p:Path}(h:o7 d lo=some (k,p)):d=.sub k p/\lo=none:=by
 unfold o7 at h;split at h
 ·injection h with h;injection h with h1 I;subst h1;subst I;exact⟨rfl,rfl⟩
 ·cases h
def xl(rd:X->D)(ob:Nat->D)(x:X)(lo hi:Option X):Option PR:=(o7 (rd x).core lo).elim
 ((rd x).core.cA.bind fun n=>(lK rd 0 lo).bind fun p=>(lK rd n hi).bind fun q=>((rd x).core.cut p.2.toNat q.2.toNat).bind fun z =>
   some (((rd x).gate=true/\p.1=true/\q.1=true)/\(rd x).core.gN=1/\0<=p.2/\p.2<=q.2/\q.2<=n,z))
 fun k=>(lk ob k.1).bind fun c=>(c.bm k.2).cA.bind fun n=>(lK rd n hi).bind fun q =>
  some (((rd x).gate=true/\q.1=true)/\(c.bm k.2).gN=1/\0<=q.2/\q.2<=n,.pre k.1 k.2 q.2.toNat)
def D.sO:D->Option D
 | .aG k p=>some (.aG k p)
 | .ptr l=>some (.ptr l)
 | _=>none
def nT(rd:X->D):List X->Option (List D)
 | []=>some []
 | x::r=>(rd x).sO.bind fun y=>(nT rd r).bind fun l=>some (y::l)
def g1(x:D):Option PR->Option PR
 | some (s,d)=>some (x.gate=true/\s,d)
 | none=>none
def g2(x y:D):Option PR->Option PR
 | some (s,d)=>some ((x.gate=true/\y.gate=true)/\s,d)
 | none=>none
def mT(a b:D):Option Bool :=
 match a,b with
 | .int k a,.int k' b=>if k=k' then some (a == b) else none
 | .str a,.str b=>some (a == b)
 | .bool a,.bool b=>some (a == b)
 | _,_=>none
def fV(k:D):List D->Option (Option Nat)
 | []=>some none
 | e::r=>(mT k e).bind fun b=>if b=true then some (some 0) else(fV k r).bind fun o=>some (o.map (·+1))
def D.kP:D->Option (List D×List D)
 | .mp ks vs=>some (ks,vs)
 | _=>none
def D.rQ:D->Option (List D×List D)
 | .mp ks vs=>some (ks,vs)
 | .bS=>some ([],[])
 | _=>none
def mapOf(ob:Nat->D)(x:D):Option (List D×List D) :=
 match x with
 | .sub k p=>(lk ob k).bind fun c=>(c.bm p).kP
 | x=>x.rQ
def D.kK(kk:Nat):D->Bool
 | .int _ _=>kk == 0
 | .bool _=>kk == 1
 | .str _=>kk == 2
 | _=>false
def jW(z:D)(vs:List D):Option Nat->D
 | some i=>vs.getD i z
 | none=>z
def wg(ok:Bool)(kk:Nat)(z:D)(ob:Nat->D)(m k:D):Option PR :=
 (mapOf ob m).bind fun e=>(fV k e.1).bind fun r=>some (k.kK kk=true,match ok with | true=>.av [jW z e.2 r,.bool r.isSome] | false=>jW z e.2 r)
def vZ(ob:Nat->D)(x:D):Option PR:=(mapOf ob x).bind fun e=>some (True,.int .i64 e.1.length)
def cQ(k v:D)(ks vs:List D):Option Nat->List D×List D
 | some i=>(ks,vs.set i v)
 | none=>(ks++[k],vs++[v])
def bytesOf:List D->Option (List UInt8)
 | []=>some []
 | .int .u8 n::r=>(bytesOf r).bind fun l=>some (UInt8.ofNat n.toNat::l)
 | _=>none
def D.mz:D->Option (List UInt8)
 | .slice _ l=>bytesOf l
 | .row _ l=>bytesOf l
 | .aH _=>some []
 | _=>none
def rh(ob:Nat->D)(x:D):Option PR :=
 match x with
 | .sub k p=>(lk ob k).bind fun c=>(c.bm p).mz.bind fun s=>one (.str s)
 | x=>x.mz.bind fun s=>one (.str s)
def rT(neg:Bool)(x:D):Option PR :=
 match x with
 | .bz=>some (True,.bool (!neg))
 | .bE _ _=>some (True,.bool neg)
 | _=>none
def sZ(s:List UInt8):D:=.slice (.int .u8 0) (s.map fun b=>.int .u8 b.toNat)
def tJ(neg:Bool)(ob:Nat->D)(x:D):Option PR :=
 match x with
 | .aH _=>some (True,.bool (!neg))
 | x=>(lZ ob x).bind fun p=>match p.2 with
  | .int _ n=>some (0<n,.bool neg)
  | _=>none
def zK(t:TypeId)(x:D):Option PR :=
 match x with
 | .agg [.str s]=>some (True,.bE t (.agg [.str s]))
 | _=>none
def bO(k:Kp)(rd:X->D)(ob:Nat->D):Option PR :=
 match k with
 | .mv x=>g1 (rd x) (one (rd x).core)
 | .pick c a b=>wO (rd c).gate (rd a).gate (rd b).gate (rd c).core (rd a).core (rd b).core
 | .bin op x y=>g2 (rd x) (rd y) (sU op (rd x).core (rd y).core)
 | .shr x y=>g2 (rd x) (rd y) (xk (rd x).core (rd y).core)
 | .mm mx x y=>g2 (rd x) (rd y) (wj mx (rd x).core (rd y).core)
 | .not x=>g1 (rd x) (wA (rd x).core)
 | .conv k x=>g1 (rd x) (vr k (rd x).core)
 | .len x=>g1 (rd x) (lZ ob (rd x).core)
 | .rK x=>g1 (rd x) (v7 (rd x).core)
 | .aB sz x i=>g2 (rd x) (rd i) (oc sz ob (rd x).core (rd i).core)
 | .ld a=>g1 (rd a) (oh ob (rd a).core)
 | .dz n a=>g1 (rd a) (oi n ob (rd a).core)
 | .fA off a=>g1 (rd a) (nW off ob (rd a).core)
 | .ru off x=>g1 (rd x) (vH off (rd x).core)
 | .iP zs parts=>(nX rd zs parts).bind fun p=>some (p.1=true,.agg p.2)
 | .rC x i=>g2 (rd x) (rd i) (vQ (rd x).core (rd i).core)
 | .ext i x=>g1 (rd x) (vB i (rd x).core)
 | .oo x=>g1 (rd x) (oq (rd x).core)
 | .eqs neg ks x y=>g2 (rd x) (rd y) (vA neg ks (rd x).core (rd y).core)
 | .qF x lo hi=>BD rd x lo hi
 | .sl x lo hi=>xl rd ob x lo hi
 | .rO f caps=>(nT rd caps).bind fun l=>some (True,.fn f l)
 | .pV ok kk z m k=>g2 (rd m) (rd k) (wg ok kk z ob (rd m).core (rd k).core)
 | .pS x=>g1 (rd x) (vZ ob (rd x).core)
 | .pA x=>g1 (rd x) (rh ob (rd x).core)
 | .rS neg x=>g1 (rd x) (rT neg (rd x).core)
 | .p7 neg x=>g1 (rd x) (tJ neg ob (rd x).core)
 | .rN t x=>g1 (rd x) (zK t (rd x).core)
 | _=>none
end Go.D3
