/- THE OPERATIONS IN SHORT FORM AND WHAT THE PURE ONES COMPUTE. Generic. -/
import Derived.Calls
import Derived.Laws.World
import GoSem.ClaimData
import Derived.Lib.ItoaNum
namespace Go.D3
open Go
abbrev Path:=List (Nat×Nat)
inductive D where
 | int (k:IntKind) (n:Int)
 | bool (b:Bool)
 | str (s:List UInt8)
 | slice (z:D) (l:List D)
 | agg (l:List D)
 | al (l:List D)
 | ptr (l:List D)
 | bc
 | fn (f:FuncId) (caps:List D)
 | vw (x:D)
 | o (x:D)
 | box (l:List D)
 | row (z:D) (l:List D)
 | sub (k:Nat) (p:Path)
 | av (k:Nat) (p:Path)
 | pre (k:Nat) (p:Path) (n:Nat)
 | when (g:Bool) (x:D)
 | aB (z:D)
 | dead
 | mp (ks vs:List D)
 | bJ
 | bf (t:TypeId) (x:D)
 | aY
 | bL (s:List UInt8) (pos:Nat)
 | eo (n:Nat)
 deriving Inhabited
def D.cells:D->List D
 | .agg l=>l
 | d=>[d]
def D.isAgg:D->Bool
 | .agg _=>true
 | _=>false
theorem D.cells_one{d:D}(h:d.isAgg=false):d.cells=[d]:=by
 cases d<;>simp[D.isAgg] at h<;>rfl
def cellAt(L:List D)(sz:Nat)(j:Nat):Option D:=(L[j / sz]?).bind fun(d:D)=>d.cells[j % sz]?
theorem l4{L:List D}{sz j:Nat}{x:D}(hz : 0<sz)(h:cellAt L sz j=some x):j<L.length*sz:=by
 unfold cellAt at h;cases hL:L[j / sz]? with
 | none=>simp[hL] at h
 | some d=>exact(Nat.div_lt_iff_lt_mul hz).1 (List.getElem?_eq_some_iff.1 hL).1
theorem EY{L:List D}{sz j:Nat}(hz : 0<sz)(hsz:∀x∈L,x.cells.length=sz)(h:j<L.length*sz):∃x,cellAt L sz j=some x:=by
 have hlt:j / sz<L.length:=(Nat.div_lt_iff_lt_mul hz).2 h;have hl:=hsz L[j / sz] (List.getElem_mem hlt);have hmod:=Nat.mod_lt j hz;have hm':j % sz<(L[j / sz]).cells.length:=by omega
 exact⟨(L[j / sz]).cells[j % sz],by simp[cellAt,List.getElem?_eq_getElem hlt,List.getElem?_eq_getElem hm']⟩
inductive Sc:Value->D->Prop
 | int {k:IntKind} {n:Int} (h:k.has n):Sc (.int k n) (.int k n)
 | bool {b:Bool}:Sc (.bool b) (.bool b)
 | str {s:List UInt8} (h:s.length<=maxLen):Sc (.string ⟨s.toArray⟩) (.str s)
 | agg {cs:Array Value} {l:List D} (hs:cs.size=l.length) (hr:∀j x,l[j]?=some x->Sc (cs.getD j undef) x):Sc (.agg cs) (.agg l)
def oO(es:Array MapEntry)(ks vs:List D):Prop :=
 (es.size=ks.length/\vs.length=ks.length/\ks.length<=maxLen)/\(∀(j:Nat)(e:MapEntry)(k:D),es[j]?=some e->ks[j]?=some k->Sc e.key k)/\∀(j:Nat)(e:MapEntry)(v:D),es[j]?=some e->vs[j]?=some v->Sc e.val v
inductive Rd(w:World)(A:Nat->Prop):Value->D->Prop
 | int {k:IntKind} {n:Int} (h:k.has n):Rd w A (.int k n) (.int k n)
 | bool {b:Bool}:Rd w A (.bool b) (.bool b)
 | str {s:List UInt8} (h:s.length<=maxLen):Rd w A (.string ⟨s.toArray⟩) (.str s)
 | nil {z:D}:Rd w A (.slice none 0 0) (.slice z [])
 | empty {z:D} {p:Addr} {cap:Nat} (hm:cap<=maxLen):Rd w A (.slice (some p) 0 cap) (.slice z [])
 | slice {z:D} {L:List D} {b off cap sz:Nat} (hA:A b) (hc:L.length<=cap) (hm:cap<=maxLen) (hz : 0<sz) (hzz:z.cells.length=sz)
   (hsz:∀x∈L,x.cells.length=sz)
   (vs:Nat->Value) (hcells:∀j x,cellAt L sz j=some x->w.cell? ⟨b,off+j,none⟩=some (vs j))
   (hr:∀j x,cellAt L sz j=some x->Rd w A (vs j) x):Rd w A (.slice (some ⟨b,off,none⟩) L.length cap) (.slice z L)
 | agg {cs:Array Value} {l:List D} (hs:cs.size=l.length) (hr:∀j x,l[j]?=some x->Rd w A (cs.getD j undef) x):Rd w A (.agg cs) (.agg l)
 | al {cs:Array Value} {l:List D} (hs:cs.size=l.length) (hr:∀j x,l[j]?=some x->Rd w A (cs.getD j undef) x):Rd w A (.tuple cs) (.al l)
 | ptr {b off:Nat} {l:List D} (hA:A b) (vs:Nat->Value) (hcells:∀j x,l[j]?=some x->w.cell? ⟨b,off+j,none⟩=some (vs j))
   (hr:∀j x,l[j]?=some x->Rd w A (vs j) x):Rd w A (.pointer (some ⟨b,off,none⟩)) (.ptr l)
 | bc:Rd w A (.pointer none) .bc
 | fn {f:FuncId} {cs:Array Value} {l:List D} (hs:cs.size=l.length) (hr:∀j x,l[j]?=some x->Rd w A (cs.getD j undef) x):Rd w A (.func (.func f) #[] cs) (.fn f l)
 | vw {v:Value} {d:D} (h:Rd w A v d):Rd w A v (.vw d)
 | o {v:Value} {d:D} (h:Rd w A v d):Rd w A v (.o d)
 | aB {z:D}:Rd w A (.slice none 0 0) (.aB z)
 | dead {v:Value}:Rd w A v .dead
 | mp {ks vs:List D} {r clock:Nat} {es:Array MapEntry} (hA:A r) (hb:w.heap[r]?=some (.map es clock)) (hE:oO es ks vs):Rd w A (.map (some r)) (.mp ks vs)
 | bJ:Rd w A (.map none) .bJ
 | bf {t:TypeId} {v:Value} {d:D} (h:Rd w A v d):Rd w A (.iface t v) (.bf t d)
 | aY:Rd w A .nilIface .aY
 | bL {s:List UInt8} {pos r:Nat} (hA:A r) (hb:w.heap[r]?=some (.stringIter ⟨s.toArray⟩ pos)) (hs:s.length<=maxLen):Rd w A (.pointer (some ⟨r,0,none⟩)) (.bL s pos)
 | eo {n:Nat} {t:TypeId} {a:Addr} (hA:A n) (hc:w.cell? ⟨n,0,none⟩=some (.iface t (.pointer (some a)))):Rd w A (.pointer (some a)) (.eo n)
theorem cell_of_heap{w w':World}{b off:Nat}(h:w'.heap[b]?=w.heap[b]?):w'.cell? ⟨b,off,none⟩=w.cell? ⟨b,off,none⟩:=by
 simp[World.cell?,h]
theorem Rd.mono{w w':World}{A A':Nat->Prop}{v:Value}{d:D}(h:Rd w A v d)(hA:∀b,A b->A' b)(hw:∀b,A b->w'.heap[b]?=w.heap[b]?):Rd w' A' v d:=by
 induction h with
 | int h=>exact .int h
 | bool=>exact .bool
 | str h=>exact .str h
 | nil=>exact .nil
 | empty h=>exact .empty h
 | slice hAb hc hm hz hzz hsz vs hcells _ ih =>
  exact .slice (hA _ hAb) hc hm hz hzz hsz vs (fun j x hx=>by rw[cell_of_heap (hw _ hAb)];exact hcells j x hx) ih
 | agg hs _ ih=>exact .agg hs ih
 | al hs _ ih=>exact .al hs ih
 | ptr hAb vs hcells _ ih =>
  exact .ptr (hA _ hAb) vs (fun j x hx=>by rw[cell_of_heap (hw _ hAb)];exact hcells j x hx) ih
 | bc=>exact .bc
 | fn hs _ ih=>exact .fn hs ih
 | vw _ ih=>exact .vw ih
 | o _ ih=>exact .o ih
 | aB=>exact .aB
 | dead=>exact .dead
 | mp hAr hb hE=>exact .mp (hA _ hAr) (by rw[hw _ hAr];exact hb) hE
 | bJ=>exact .bJ
 | bf _ ih=>exact .bf ih
 | aY=>exact .aY
 | bL hAr hb hs=>exact .bL (hA _ hAr) (by rw[hw _ hAr];exact hb) hs
 | eo hAn hc=>exact .eo (hA _ hAn) (by rw[cell_of_heap (hw _ hAn)];exact hc)
inductive aj(w:World)(A:Nat->Prop):Value->D->(Nat->Prop)->Prop
 | int {k:IntKind} {n:Int} {F:Nat->Prop} (h:k.has n):aj w A (.int k n) (.int k n) F
 | bool {b:Bool} {F:Nat->Prop}:aj w A (.bool b) (.bool b) F
 | str {s:List UInt8} {F:Nat->Prop} (h:s.length<=maxLen):aj w A (.string ⟨s.toArray⟩) (.str s) F
 | nil {z:D} {F:Nat->Prop}:aj w A (.slice none 0 0) (.slice z []) F
 | bc {F:Nat->Prop}:aj w A (.pointer none) .bc F
 | fn {f:FuncId} {F:Nat->Prop}:aj w A (.func (.func f) #[] #[]) (.fn f []) F
 | vw {v:Value} {d:D} {F:Nat->Prop} (h:Rd w A v d):aj w A v (.vw d) F
 | dead {v:Value} {F:Nat->Prop}:aj w A v .dead F
 | mp {ks vs:List D} {r clock:Nat} {es:Array MapEntry} {F:Nat->Prop} (hF:F r) (hb:w.heap[r]?=some (.map es clock)) (hE:oO es ks vs):aj w A (.map (some r)) (.mp ks vs) F
 | bJ {F:Nat->Prop}:aj w A (.map none) .bJ F
 | bf {t:TypeId} {v:Value} {d:D} {F:Nat->Prop} (h:Rd w A v d):aj w A (.iface t v) (.bf t d) F
 | aY {F:Nat->Prop}:aj w A .nilIface .aY F
 | bL {s:List UInt8} {pos r:Nat} {F:Nat->Prop} (hF:F r) (hb:w.heap[r]?=some (.stringIter ⟨s.toArray⟩ pos)) (hs:s.length<=maxLen):aj w A (.pointer (some ⟨r,0,none⟩)) (.bL s pos) F
 | slice {z:D} {L:List D} {b off cap sz:Nat} {cs:Array Value} {e:TypeId} {fz:Nat×Nat} {F:Nat->Prop} (Fs:Nat->Nat->Prop) (hb:w.heap[b]?=some (.cells cs e fz))
   (hroom:off+cap*sz<=cs.size/\(fz.2<=fz.1\/cs.size<=fz.1)) (hc:L.length<=cap) (hm:cap<=maxLen) (hz : 0<sz) (hzz:z.cells.length=sz)
   (hsz:∀x∈L,x.cells.length=sz)
   (hr:∀j x,cellAt L sz j=some x->aj w A (cs.getD (off+j) undef) x (Fs j)) (hF:F b)
   (hfs:∀j c,Fs j c->c≠b/\F c) (hdis:∀i j c,i≠j->Fs i c->¬Fs j c) :
   aj w A (.slice (some ⟨b,off,none⟩) L.length cap) (.slice z L) F
 | agg {cs:Array Value} {l:List D} {F:Nat->Prop} (Fs:Nat->Nat->Prop) (hs:cs.size=l.length) (hr:∀j x,l[j]?=some x->aj w A (cs.getD j undef) x (Fs j))
   (hfs:∀j c,Fs j c->F c) (hdis:∀i j c,i≠j->Fs i c->¬Fs j c):aj w A (.agg cs) (.agg l) F
 | al {cs:Array Value} {l:List D} {F:Nat->Prop} (Fs:Nat->Nat->Prop) (hs:cs.size=l.length) (hr:∀j x,l[j]?=some x->aj w A (cs.getD j undef) x (Fs j))
   (hfs:∀j c,Fs j c->F c) (hdis:∀i j c,i≠j->Fs i c->¬Fs j c):aj w A (.tuple cs) (.al l) F
 | ptr {b:Nat} {l:List D} {cs:Array Value} {e:TypeId} {F:Nat->Prop} (Fs:Nat->Nat->Prop) (hb:w.heap[b]?=some (.cells cs e (0,0))) (hs:cs.size=l.length)
   (hr:∀j x,l[j]?=some x->aj w A (cs.getD j undef) x (Fs j)) (hF:F b)
   (hfs:∀j c,Fs j c->c≠b/\F c) (hdis:∀i j c,i≠j->Fs i c->¬Fs j c):aj w A (.pointer (some ⟨b,0,none⟩)) (.ptr l) F
theorem getD_some{cs:Array Value}{j:Nat}(h:j<cs.size):cs[j]?=some (cs.getD j undef):=by
 simp[h]
theorem dU{w:World}{b j:Nat}{cs:Array Value}{e:TypeId}{fz:Nat×Nat}(hb:w.heap[b]?=some (.cells cs e fz))(h:j<cs.size):w.cell? ⟨b,j,none⟩=some (cs.getD j undef):=by
 simp[World.cell?,hb,h]
theorem aj.rd{w:World}{A A':Nat->Prop}{v:Value}{d:D}{F:Nat->Prop}(h:aj w A v d F):(∀b,A b->A' b)->(∀b,F b->A' b)->Rd w A' v d:=by
 induction h with
 | int h=>exact fun _ _=>.int h
 | bool=>exact fun _ _=>.bool
 | str h=>exact fun _ _=>.str h
 | nil=>exact fun _ _=>.nil
 | bc=>exact fun _ _=>.bc
 | fn=>exact fun _ _=>.fn rfl (fun j x hx=>by simp at hx)
 | vw h=>exact fun hA _=>.vw (h.mono hA fun _ _=>rfl)
 | dead=>exact fun _ _=>.dead
 | mp hF hb hE=>exact fun _ hA'=>.mp (hA' _ hF) hb hE
 | bJ=>exact fun _ _=>.bJ
 | bf h=>exact fun hA _=>.bf (h.mono hA fun _ _=>rfl)
 | aY=>exact fun _ _=>.aY
 | bL hF hb hs=>exact fun _ hA'=>.bL (hA' _ hF) hb hs
 | @slice z L b off cap sz cs e fz F Fs hb hroom hc hm hz hzz hsz hr hF hfs hdis ih =>
  intro hA hA';refine .slice (hA' _ hF) hc hm hz hzz hsz (fun j=>cs.getD (off+j) undef) (fun j x hx=>?_) (fun j x hx=>ih j x hx hA fun c hc'=>hA' c (hfs j c hc').2);have hj:=l4 hz hx;have h1:L.length*sz<=cap*sz:=Nat.mul_le_mul_right _ hc;exact dU hb (by omega)
 | agg Fs hs _ hfs hdis ih=>exact fun hA hA'=>.agg hs fun j x hx=>ih j x hx hA fun c hc=>hA' c (hfs j c hc)
 | al Fs hs _ hfs hdis ih=>exact fun hA hA'=>.al hs fun j x hx=>ih j x hx hA fun c hc=>hA' c (hfs j c hc)
 | @ptr b l cs e F Fs hb hs hr hF hfs hdis ih =>
  intro hA hA';refine .ptr (hA' _ hF) (fun j=>cs.getD j undef) (fun j x hx=>?_) (fun j x hx=>ih j x hx hA fun c hc'=>hA' c (hfs j c hc').2);have hj:=(List.getElem?_eq_some_iff.1 hx).1;rw[Nat.zero_add];exact dU hb (by omega)
theorem aj.mono{w w':World}{A A':Nat->Prop}{v:Value}{d:D}{F:Nat->Prop}(h:aj w A v d F) :
  ∀{F':Nat->Prop},(∀b,A b->A' b)->(∀b,A b->w'.heap[b]?=w.heap[b]?)->(∀b,F b->w'.heap[b]?=w.heap[b]?)->(∀b,F b->F' b)->aj w' A' v d F':=by
 induction h with
 | int h=>exact fun _ _ _ _=>.int h
 | bool=>exact fun _ _ _ _=>.bool
 | str h=>exact fun _ _ _ _=>.str h
 | nil=>exact fun _ _ _ _=>.nil
 | bc=>exact fun _ _ _ _=>.bc
 | fn=>exact fun _ _ _ _=>.fn
 | vw h=>exact fun hA hw _ _=>.vw (h.mono hA hw)
 | dead=>exact fun _ _ _ _=>.dead
 | mp hF hb hE=>exact fun _ _ hw hFF=>.mp (hFF _ hF) (by rw[hw _ hF];exact hb) hE
 | bJ=>exact fun _ _ _ _=>.bJ
 | bf h=>exact fun hA hw _ _=>.bf (h.mono hA hw)
 | aY=>exact fun _ _ _ _=>.aY
 | bL hF hb hs=>exact fun _ _ hw hFF=>.bL (hFF _ hF) (by rw[hw _ hF];exact hb) hs
 | slice Fs hb hroom hc hm hz hzz hsz _ hF hfs hdis ih =>
  exact fun hA hwA hw hFF=>.slice Fs (by rw[hw _ hF];exact hb) hroom hc hm hz hzz hsz (fun j x hx=>ih j x hx hA hwA (fun c hc'=>hw c (hfs j c hc').2) fun c hc'=>hc') (hFF _ hF) (fun j c hc'=>⟨(hfs j c hc').1,hFF _ (hfs j c hc').2⟩) hdis
 | agg Fs hs _ hfs hdis ih =>
  exact fun hA hwA hw hFF=>.agg Fs hs (fun j x hx=>ih j x hx hA hwA (fun c hc'=>hw c (hfs j c hc')) fun c hc'=>hc') (fun j c hc'=>hFF _ (hfs j c hc')) hdis
 | al Fs hs _ hfs hdis ih =>
  exact fun hA hwA hw hFF=>.al Fs hs (fun j x hx=>ih j x hx hA hwA (fun c hc'=>hw c (hfs j c hc')) fun c hc'=>hc') (fun j c hc'=>hFF _ (hfs j c hc')) hdis
 | ptr Fs hb hs _ hF hfs hdis ih =>
  exact fun hA hwA hw hFF=>.ptr Fs (by rw[hw _ hF];exact hb) hs (fun j x hx=>ih j x hx hA hwA (fun c hc'=>hw c (hfs j c hc').2) fun c hc'=>hc') (hFF _ hF) (fun j c hc'=>⟨(hfs j c hc').1,hFF _ (hfs j c hc').2⟩) hdis
def D.un:D->D
 | .o d=>d
 | d=>d
def D.dZ:D->Nat->Nat->D
 | .slice z l,i,off=>(l.getD i z).cells.getD off .dead
 | .row z l,i,off=>(l.getD i z).cells.getD off .dead
 | .ptr l,_,off=>l.getD off .dead
 | .box l,_,off=>l.getD off .dead
 | .agg l,_,off=>l.getD off .dead
 | .al l,_,off=>l.getD off .dead
 | _,_,_=>.dead
def D.aX(x:D)(i off:Nat):D:=x.un.dZ i off
def kI(e y:D):Prop:=e.isAgg=true\/y.isAgg=false
def dQ(e:D)(off:Nat)(y:D):D :=
 match e with
 | .agg l=>.agg (l.set off y)
 | _=>y
def D.dx:D->Nat->Nat->D->D
 | .slice z l,i,off,y=>.slice z (l.set i (dQ (l.getD i z) off y))
 | .row z l,i,off,y=>.row z (l.set i (dQ (l.getD i z) off y))
 | .ptr l,_,off,y=>.ptr (l.set off y)
 | .box l,_,off,y=>.box (l.set off y)
 | .agg l,_,off,y=>.agg (l.set off y)
 | .al l,_,off,y=>.al (l.set off y)
 | d,_,_,_=>d
def D.iz:D->Nat->D->Prop
 | .slice z l,i,y=>kI (l.getD i z) y
 | .row z l,i,y=>kI (l.getD i z) y
 | _,_,_=>True
def D.eG(x:D)(i off:Nat)(y:D):D :=
 match x with
 | .o d=>.o (d.dx i off y)
 | d=>d.dx i off y
def D.fg:D->Nat->Nat->Prop
 | .slice z l,i,off=>i<l.length/\off<z.cells.length
 | .row z l,i,off=>i<l.length/\off<z.cells.length
 | .ptr l,i,off=>i=0/\off<l.length
 | .box l,i,off=>i=0/\off<l.length
 | .agg l,i,off=>i=0/\off<l.length
 | .al l,i,off=>i=0/\off<l.length
 | _,_,_=>False
def D.lu(x:D)(i off:Nat):Prop:=x.un.fg i off
def D.at(x:D):Path->D
 | []=>x
 | (i,off)::p=>(x.aX i off).at p
def D.setAt(x:D):Path->D->D
 | [],y=>y
 | (i,off)::p,y=>x.eG i off ((x.aX i off).setAt p y)
def D.has(x:D):Path->Prop
 | []=>True
 | (i,off)::p=>x.lu i off/\(x.aX i off).has p
def dY(v:Value):D->Nat->Nat->Option Addr
 | .slice z _,i,off=>match v with
  | .slice (some a) _ _=>some ⟨a.block,a.off+(i*z.cells.length+off),none⟩
  | _=>none
 | .row z _,i,off=>match v with
  | .slice (some a) _ _=>some ⟨a.block,a.off+(i*z.cells.length+off),none⟩
  | _=>none
 | .ptr _,_,off=>match v with
  | .pointer (some a)=>some ⟨a.block,a.off+off,none⟩
  | _=>none
 | .box _,_,off=>match v with
  | .pointer (some a)=>some ⟨a.block,a.off+off,none⟩
  | _=>none
 | _,_,_=>none
def dK(v:Value)(x:D)(i off:Nat):Option Addr:=dY v x.un i off
def mj(w:World)(v:Value):D->Nat->Nat->Option Value
 | .agg _,_,off=>match v with
  | .agg cs=>some (cs.getD off undef)
  | _=>none
 | .al _,_,off=>match v with
  | .tuple cs=>some (cs.getD off undef)
  | _=>none
 | x,i,off=>(dY v x i off).bind w.cell?
def cz(w:World)(v:Value)(x:D)(i off:Nat):Option Value:=mj w v x.un i off
def aP(w:World)(v:Value)(x:D):Path->Option Value
 | []=>some v
 | (i,off)::p=>(cz w v x i off).bind fun u=>aP w u (x.aX i off) p
def aH(w:World)(v:Value)(x:D):Path->Option Addr
 | []=>none
 | [(i,off)]=>dK v x i off
 | (i,off)::p=>(cz w v x i off).bind fun u=>aH w u (x.aX i off) p
theorem EW{z:D}{L:List D}{sz i off:Nat}(hz:z.cells.length=sz)(hsz:∀x∈L,x.cells.length=sz)(hi:i<L.length)(ho:off<sz) :
  cellAt L sz (i*sz+off)=some ((D.slice z L).dZ i off):=by
 have hpos : 0<sz:=by omega
 have e1:(i*sz+off) / sz=i:=by
  rw[Nat.mul_comm,Nat.mul_add_div hpos,Nat.div_eq_of_lt ho];omega
 have e2:(i*sz+off) % sz=off:=by
  rw[Nat.mul_comm,Nat.mul_add_mod,Nat.mod_eq_of_lt ho]
 have hl:=hsz L[i] (List.getElem_mem hi);simp only[cellAt,e1,e2,D.dZ,List.getElem?_eq_getElem hi,Option.bind_some];simp only[List.getD_eq_getElem?_getD,List.getElem?_eq_getElem hi,Option.getD_some];rw[List.getElem?_eq_getElem (by omega)];rfl
theorem wL{e y:D}{off:Nat}(hy:kI e y)(ho:off<e.cells.length):(dQ e off y).cells=e.cells.set off y:=by
 cases e
 case agg l=>rfl
 all_goals
  simp only[D.cells,List.length_cons,List.length_nil] at ho;have:off=0:=by omega
  subst this;simp only[dQ,D.cells_one (hy.resolve_left (by simp[D.isAgg]))];rfl
theorem OM{z:D}{L:List D}{sz i off j:Nat}{y:D}(hzz:z.cells.length=sz)(hsz:∀x∈L,x.cells.length=sz)(hy:kI (L.getD i z) y)(hi:i<L.length)(ho:off<sz) :
  cellAt (L.set i (dQ (L.getD i z) off y)) sz j=if j=i*sz+off then some y else cellAt L sz j:=by
 have hpos : 0<sz:=by omega
 have hLi:L.getD i z=L[i]:=by rw[List.getD_eq_getElem?_getD,List.getElem?_eq_getElem hi];rfl
 have hl:=hsz L[i] (List.getElem_mem hi);unfold cellAt;by_cases hji:j / sz=i
 ·have hj:j=i*sz+j % sz:=by
   have:=Nat.div_add_mod j sz;rw[hji,Nat.mul_comm] at this;omega
  rw[hji,List.getElem?_set_self hi,Option.bind_some,wL hy (by rw[hLi];omega),hLi,List.getElem?_eq_getElem hi,Option.bind_some];have hm:=Nat.mod_lt j hpos;by_cases h2:j % sz=off
  ·rw[if_pos (by omega),h2,List.getElem?_set_self (by omega)]
  ·rw[if_neg (by omega),List.getElem?_set_ne (Ne.symm h2)]
 ·rw[List.getElem?_set_ne (Ne.symm hji)]
  rw[if_neg];rintro rfl;apply hji;rw[Nat.mul_comm,Nat.mul_add_div hpos,Nat.div_eq_of_lt ho];omega
theorem ZR{z:D}{L:List D}{sz i off:Nat}{y:D}(hsz:∀x∈L,x.cells.length=sz)(hy:kI (L.getD i z) y)(hi:i<L.length)(ho:off<sz) :
  ∀x∈L.set i (dQ (L.getD i z) off y),x.cells.length=sz:=by
 intro x hx;have hLi:L.getD i z=L[i]:=by rw[List.getD_eq_getElem?_getD,List.getElem?_eq_getElem hi];rfl
 have hl:=hsz L[i] (List.getElem_mem hi);rcases List.mem_or_eq_of_mem_set hx with h | h
 ·exact hsz x h
 ·rw[h,wL hy (by rw[hLi];omega),List.length_set,hLi,hl]
mutual
def D.strip:D->D
 | .vw d=>(match d.strip with | .agg l=>.vw (.agg l) | d'=>d')
 | .slice z l=>.slice z.strip (stripL l)
 | .agg l=>.agg (stripL l)
 | .al l=>.al (stripL l)
 | .ptr l=>.ptr (stripL l)
 | .aB z=>.slice z []
 | d=>d
def stripL:List D->List D
 | []=>[]
 | x::r=>x.strip::stripL r
end
theorem oG:∀{l:List D},stripL l=l.map D.strip
 | []=>rfl
 | x::r=>by rw[stripL,oG];rfl
theorem oF{l:List D}:(stripL l).length=l.length:=by rw[oG,List.length_map]
theorem qf{l:List D}{j:Nat}{x:D}(h:(stripL l)[j]?=some x):∃y,l[j]?=some y/\x=y.strip:=by
 rw[oG,List.getElem?_map,Option.map_eq_some_iff] at h;obtain⟨y,h1,h2⟩:=h;exact⟨y,h1,h2.symm⟩
theorem Bu{d:D}:d.strip.cells=d.cells.map D.strip:=by
 cases d
 case agg l=>show stripL l=_;rw[oG];rfl
 case vw d =>
  show(match d.strip with | .agg l=>D.vw (.agg l) | d'=>d').cells=[match d.strip with | .agg l=>D.vw (.agg l) | d'=>d'];cases d.strip<;>rfl
 all_goals rfl
theorem EZ{L:List D}{sz j:Nat}{x:D}(h:cellAt (stripL L) sz j=some x):∃y,cellAt L sz j=some y/\x=y.strip:=by
 unfold cellAt at h|-
 rw[Option.bind_eq_some_iff] at h;obtain⟨e,h1,h2⟩:=h;obtain⟨e',h3,rfl⟩:=qf h1;rw[Bu,List.getElem?_map,Option.map_eq_some_iff] at h2;obtain⟨y,h4,h5⟩:=h2;exact⟨y,by rw[h3];exact h4,h5.symm⟩
theorem Rd.strip{w:World}{A:Nat->Prop}{v:Value}{d:D}(h:Rd w A v d):Rd w A v d.strip:=by
 induction h with
 | int h=>exact .int h
 | bool=>exact .bool
 | str h=>exact .str h
 | nil=>exact .nil
 | empty h=>exact .empty h
 | @slice z L b off cap sz hA hc hm hz hzz hsz vs hcells _ ih =>
  have:=Rd.slice (w:=w) (A:=A) (z:=z.strip) (L:=stripL L) (off:=off) (sz:=sz) hA (by rw[oF];exact hc) hm hz (by rw[Bu,List.length_map];exact hzz) (fun x hx=>by
   rw[oG,List.mem_map] at hx;obtain⟨y,hy,rfl⟩:=hx
   rw[Bu,List.length_map];exact hsz y hy) vs (fun j x hx=>by obtain⟨y,hy,rfl⟩:=EZ hx;exact hcells j y hy) (fun j x hx=>by obtain⟨y,hy,rfl⟩:=EZ hx;exact ih j y hy)
  rwa [oF] at this
 | agg hs _ ih=>exact .agg (by rw[oF];exact hs) fun j x hx=>by obtain⟨y,hy,rfl⟩:=qf hx;exact ih j y hy
 | al hs _ ih=>exact .al (by rw[oF];exact hs) fun j x hx=>by obtain⟨y,hy,rfl⟩:=qf hx;exact ih j y hy
 | ptr hAb vs hcells _ ih=>exact .ptr hAb vs (fun j x hx=>by obtain⟨y,hy,rfl⟩:=qf hx;exact hcells j y hy) fun j x hx=>by obtain⟨y,hy,rfl⟩:=qf hx;exact ih j y hy
 | bc=>exact .bc
 | fn hs hr _=>exact .fn hs hr
 | @vw v d _ ih =>
  show Rd w A v (match d.strip with | .agg l=>D.vw (.agg l) | d'=>d');generalize d.strip=e at ih;cases e<;>first | exact ih | exact .vw ih
 | o h _=>exact .o h
 | aB=>exact .nil
 | dead=>exact .dead
 | mp hAr hb hE=>exact .mp hAr hb hE
 | bJ=>exact .bJ
 | bf h _=>exact .bf h
 | aY=>exact .aY
 | bL hAr hb hs=>exact .bL hAr hb hs
 | eo hAn hc=>exact .eo hAn hc
end Go.D3
namespace Go.D3
open Go
def gl:Nat->Option D
 | 1=>some (.ptr [.bf 376 (.eo 1)])
 | _=>none
structure fb(w:World)(A:Nat->Prop):Prop where
 gl:∀(g:Nat)(d:D),gl g=some d->Rd w A (.pointer (some ⟨g,0,none⟩)) d
 FW:w.cell? ⟨0,0,none⟩=some (.iface 264 (.agg #[.pointer (some ⟨10,177,none⟩)]))/\A 0
 pow:∃t fz,w.heap[2]?=some (.cells (Lib.pow10Tab.map fun z=>Value.int .u64 z).toArray t fz)/\A 2
 maxLen:∃m,w.cell? ⟨3,0,none⟩=some (.int .i64 m)/\A 3
 syn:∃t v,w.cell? ⟨6,0,none⟩=some (.iface t v)/\A 6
 fq:∃t v,w.cell? ⟨7,0,none⟩=some (.iface t v)/\A 7
theorem fb.mono{w w':World}{A A':Nat->Prop}(h:fb w A)(hA:∀b,A b->A' b)(hw:∀b,A b->w'.heap[b]?=w.heap[b]?):fb w' A':=by
 obtain⟨h1,⟨h0,a0⟩,⟨t,fz,h2,a2⟩,⟨m,h3,a3⟩,⟨t5,v5,h5,a5⟩,⟨t6,v6,h6,a6⟩⟩:=h;exact⟨fun g d hd=>(h1 g d hd).mono hA hw,⟨by rw[cell_of_heap (hw 0 a0)];exact h0,hA _ a0⟩,⟨t,fz,by rw[hw 2 a2];exact h2,hA _ a2⟩,⟨m,by rw[cell_of_heap (hw 3 a3)];exact h3,hA _ a3⟩,⟨t5,v5,by rw[cell_of_heap (hw 6 a5)];exact h5,hA _ a5⟩,⟨t6,v6,by rw[cell_of_heap (hw 7 a6)];exact h6,hA _ a6⟩⟩
end Go.D3
namespace Go.D3
open Go
theorem wK{w:World}{b j:Nat}{cs:Array Value}{e:TypeId}{fz:Nat×Nat}(u:Value)(hb:w.heap[b]?=some (.cells cs e fz)) :
  (w.setCell ⟨b,j,none⟩ u).heap[b]?=some (.cells (cs.setIfInBounds j u) e fz):=by
 simp[World.setCell,Array.getElem?_modify,hb]
theorem tQ{w:World}{a:Addr}{c:Nat}(u:Value)(h:c≠a.block):(w.setCell a u).heap[c]?=w.heap[c]?:=by
 simp only[World.setCell,Array.getElem?_modify];rw[if_neg (Ne.symm h)]
theorem o6{cs:Array Value}{j:Nat}(u:Value)(h:j<cs.size):(cs.setIfInBounds j u).getD j undef=u:=by
 simp[h]
theorem getD_set_ne{cs:Array Value}{i j:Nat}(u:Value)(h:i≠j):(cs.setIfInBounds i u).getD j undef=cs.getD j undef:=by
 simp[Array.getElem?_setIfInBounds_ne h]
theorem aj.split{w:World}{A:Nat->Prop}{v:Value}{x:D}{F:Nat->Prop}(h:aj w A v x F){i off:Nat}(hk:x.fg i off) :
  ∃(u:Value)(F1 F2:Nat->Prop),mj w v x i off=some u/\aj w A u (x.dZ i off) F1/\(∀b,F1 b->F b)/\(∀b,F2 b->F b)/\(∀b,F1 b->¬F2 b) /\
   (∀(w':World)(A':Nat->Prop)(y:D)(F1' F':Nat->Prop),(∀b,A b->A' b)->(∀b,A b->w'.heap[b]?=w.heap[b]?)->(∀b,F2 b->w'.heap[b]?=w.heap[b]?)->aj w' A' u y F1'->(∀b,F1' b->¬F2 b) ->
     x.iz i y->(∀b,F1' b->F' b)->(∀b,F2 b->F' b)->aj w' A' v (x.dx i off y) F') /\
   (∀a,dY v x i off=some a->F2 a.block/\a.spot=none/\w.cell? a=some u/\w.frozen? a=false /\
     ∀(u':Value)(w':World)(A':Nat->Prop)(y:D)(F1' F':Nat->Prop),(∀b,A b->A' b)->(∀b,A b->w'.heap[b]?=w.heap[b]?)->(∀b,F2 b->b≠a.block->w'.heap[b]?=w.heap[b]?) ->
      w'.heap[a.block]?=(w.setCell a u').heap[a.block]?->aj w' A' u' y F1'->(∀b,F1' b->¬F2 b) ->
      x.iz i y->(∀b,F1' b->F' b)->(∀b,F2 b->F' b)->aj w' A' v (x.dx i off y) F'):=by
 cases h with
 | int _ | bool | str _ | bc | fn | vw _ | dead | mp _ _ _ | bJ | bf _ | aY | bL _ _ _=>exact hk.elim
 | nil=>simp[D.fg] at hk
 | @slice z L b o cap sz cs e fz F Fs hb hroom hc hm hz hzz hsz hr hF hfs hdis =>
  obtain⟨hi,ho⟩:=hk;rw[hzz] at ho;have hcell:=EW hzz hsz hi ho;have hj:i*sz+off<L.length*sz:=l4 hz hcell;have hcap:L.length*sz<=cap*sz:=Nat.mul_le_mul_right _ hc;have hsize:o+(i*sz+off)<cs.size:=by omega
  have hset:∀(w':World)(A':Nat->Prop)(y:D)(F1' F':Nat->Prop)(cs':Array Value),(∀b,A b->A' b)->(∀b,A b->w'.heap[b]?=w.heap[b]?) ->
    (∀c,(c=b\/∃j,j≠i*sz+off/\Fs j c)->c≠b->w'.heap[c]?=w.heap[c]?)->w'.heap[b]?=some (.cells cs' e fz)->cs'.size=cs.size->(∀j,j≠i*sz+off->cs'.getD (o+j) undef=cs.getD (o+j) undef) ->
    aj w' A' (cs'.getD (o+(i*sz+off)) undef) y F1'->(∀c,F1' c->¬(c=b\/∃j,j≠i*sz+off/\Fs j c)) ->
    kI (L.getD i z) y->(∀b,F1' b->F' b)->(∀c,(c=b\/∃j,j≠i*sz+off/\Fs j c)->F' c)->aj w' A' (.slice (some ⟨b,o,none⟩) L.length cap) ((D.slice z L).dx i off y) F':=by
   intro w' A' y F1' F' cs' hA hwA hw hb' hsz' hcs hy hd hag h1 h2
   have key:=aj.slice (w:=w') (A:=A') (z:=z) (L:=L.set i (dQ (L.getD i z) off y)) (b:=b) (off:=o) (cap:=cap) (sz:=sz) (cs:=cs') (e:=e) (F:=F')
    (fun j c=>if j=i*sz+off then F1' c else Fs j c) hb' (by omega) (by simpa using hc) hm hz hzz (ZR hsz hag hi ho)
    (fun j x hx=>by
      rw[OM hzz hsz hag hi ho] at hx;by_cases hji:j=i*sz+off
      ·rw[if_pos hji] at hx
       injection hx with hx
       subst hx;subst hji;simpa using hy
      ·rw[if_neg hji] at hx
       simp only[if_neg hji,hcs j hji]
       exact(hr j x hx).mono hA hwA (fun c hc'=>hw c (.inr ⟨j,hji,hc'⟩) (hfs j c hc').1) fun _ h=>h)
    (h2 b (.inl rfl))
    (fun j c hj'=>by
      split at hj'
      ·exact⟨fun hcb=>hd c hj' (.inl hcb),h1 c hj'⟩
      ·rename_i hji
       exact⟨(hfs j c hj').1,h2 c (.inr ⟨j,hji,hj'⟩)⟩)
    (fun p q c hpq hp hq=>by
      split at hp<;>split at hq
      ·omega
      ·rename_i hq';exact hd c hp (.inr ⟨q,hq',hq⟩)
      ·rename_i hp' _;exact hd c hq (.inr ⟨p,hp',hp⟩)
      ·exact hdis p q c hpq hp hq)
   rw[List.length_set] at key;exact key
  refine⟨cs.getD (o+(i*sz+off)) undef,Fs (i*sz+off),(fun c=>c=b\/∃j,j≠i*sz+off/\Fs j c),?_,hr _ _ hcell,fun c hc'=>(hfs _ c hc').2,?_,?_,?_,?_⟩
  ·simp only[mj,dY,hzz,Option.bind_some]
   exact dU hb hsize
  ·rintro c (rfl | ⟨j,_,hj'⟩)
   ·exact hF
   ·exact(hfs j c hj').2
  ·rintro c hc' (rfl | ⟨j,hne,hj'⟩)
   ·exact(hfs _ c hc').1 rfl
   ·exact hdis _ _ c (Ne.symm hne) hc' hj'
  ·intro w' A' y F1' F' hA hwA hw hy hd hag h1 h2
   exact hset w' A' y F1' F' cs hA hwA (fun c hc' _=>hw c hc') (by rw[hw b (.inl rfl)];exact hb) rfl (fun _ _=>rfl) hy hd hag h1 h2
  ·intro a ha
   simp only[dY,hzz,Option.some.injEq] at ha;subst ha;refine⟨.inl rfl,rfl,dU hb hsize,by simp[World.frozen?,hb];omega,fun u' w' A' y F1' F' hA hwA hw hwb hy hd hag h1 h2=>?_⟩;refine hset w' A' y F1' F' (cs.setIfInBounds (o+(i*sz+off)) u') hA hwA hw (hwb.trans (wK u' hb)) (by simp) (fun j hj'=>getD_set_ne _ (by omega)) ?_ hd hag h1 h2;rw[o6 _ hsize];exact hy
 | @agg cs l F Fs hs hr hfs hdis =>
  obtain⟨rfl,ho⟩:=hk;refine⟨cs.getD off undef,Fs off,(fun c=>∃j,j≠off/\Fs j c),rfl,?_,fun c hc=>hfs _ c hc,fun c ⟨j,_,hj⟩=>hfs j c hj,fun c hc ⟨j,hne,hj⟩=>hdis _ _ c (Ne.symm hne) hc hj,?_,?_⟩
  ·refine hr off _ ?_
   simp only[D.dZ,List.getD_eq_getElem?_getD,List.getElem?_eq_getElem ho,Option.getD_some]
  ·intro w' A' y F1' F' hA hwA hw hy hd hag h1 h2
   refine .agg (fun j c=>if j=off then F1' c else Fs j c) (by simpa using hs) (fun j x hx=>?_) (fun j c hj=>?_) (fun p q c hpq hp hq=>?_)
   ·by_cases hj:j=off
    ·subst hj
     rw[List.getElem?_set_self ho] at hx;injection hx with hx
     subst hx;simpa using hy
    ·rw[List.getElem?_set_ne (Ne.symm hj)] at hx
     simp only[if_neg hj];exact(hr j x hx).mono hA hwA (fun c hc=>hw c ⟨j,hj,hc⟩) fun _ h=>h
   ·split at hj
    ·exact h1 c hj
    ·rename_i hne;exact h2 c ⟨j,hne,hj⟩
   ·split at hp<;>split at hq
    ·omega
    ·rename_i hq';exact hd c hp ⟨q,hq',hq⟩
    ·rename_i hp' _;exact hd c hq ⟨p,hp',hp⟩
    ·exact hdis p q c hpq hp hq
  ·intro a ha;simp[dY] at ha
 | @al cs l F Fs hs hr hfs hdis =>
  obtain⟨rfl,ho⟩:=hk;refine⟨cs.getD off undef,Fs off,(fun c=>∃j,j≠off/\Fs j c),rfl,?_,fun c hc=>hfs _ c hc,fun c ⟨j,_,hj⟩=>hfs j c hj,fun c hc ⟨j,hne,hj⟩=>hdis _ _ c (Ne.symm hne) hc hj,?_,?_⟩
  ·refine hr off _ ?_
   simp only[D.dZ,List.getD_eq_getElem?_getD,List.getElem?_eq_getElem ho,Option.getD_some]
  ·intro w' A' y F1' F' hA hwA hw hy hd hag h1 h2
   refine .al (fun j c=>if j=off then F1' c else Fs j c) (by simpa using hs) (fun j x hx=>?_) (fun j c hj=>?_) (fun p q c hpq hp hq=>?_)
   ·by_cases hj:j=off
    ·subst hj
     rw[List.getElem?_set_self ho] at hx;injection hx with hx
     subst hx;simpa using hy
    ·rw[List.getElem?_set_ne (Ne.symm hj)] at hx
     simp only[if_neg hj];exact(hr j x hx).mono hA hwA (fun c hc=>hw c ⟨j,hj,hc⟩) fun _ h=>h
   ·split at hj
    ·exact h1 c hj
    ·rename_i hne;exact h2 c ⟨j,hne,hj⟩
   ·split at hp<;>split at hq
    ·omega
    ·rename_i hq';exact hd c hp ⟨q,hq',hq⟩
    ·rename_i hp' _;exact hd c hq ⟨p,hp',hp⟩
    ·exact hdis p q c hpq hp hq
  ·intro a ha;simp[dY] at ha
 | @ptr b l cs e F Fs hb hs hr hF hfs hdis =>
  obtain⟨rfl,ho⟩:=hk
  have hset:∀(w':World)(A':Nat->Prop)(y:D)(F1' F':Nat->Prop)(cs':Array Value),(∀b,A b->A' b)->(∀b,A b->w'.heap[b]?=w.heap[b]?) ->
    (∀c,(c=b\/∃j,j≠off/\Fs j c)->c≠b->w'.heap[c]?=w.heap[c]?)->w'.heap[b]?=some (.cells cs' e (0,0))->cs'.size=cs.size->(∀j,j≠off->cs'.getD j undef=cs.getD j undef) ->
    aj w' A' (cs'.getD off undef) y F1'->(∀c,F1' c->¬(c=b\/∃j,j≠off/\Fs j c)) ->
    (∀b,F1' b->F' b)->(∀c,(c=b\/∃j,j≠off/\Fs j c)->F' c)->aj w' A' (.pointer (some ⟨b,0,none⟩)) ((D.ptr l).dx 0 off y) F':=by
   intro w' A' y F1' F' cs' hA hwA hw hb' hsz' hcs hy hd h1 h2;refine .ptr (fun j c=>if j=off then F1' c else Fs j c) hb' (by simpa[hsz'] using hs) (fun j x hx=>?_) (h2 b (.inl rfl)) (fun j c hj=>?_) (fun p q c hpq hp hq=>?_)
   ·by_cases hj:j=off
    ·subst hj
     rw[List.getElem?_set_self ho] at hx;injection hx with hx
     subst hx;simpa using hy
    ·rw[List.getElem?_set_ne (Ne.symm hj)] at hx
     simp only[if_neg hj,hcs j hj];exact(hr j x hx).mono hA hwA (fun c hc=>hw c (.inr ⟨j,hj,hc⟩) (hfs j c hc).1) fun _ h=>h
   ·split at hj
    ·exact⟨fun hcb=>hd c hj (.inl hcb),h1 c hj⟩
    ·rename_i hne;exact⟨(hfs j c hj).1,h2 c (.inr ⟨j,hne,hj⟩)⟩
   ·split at hp<;>split at hq
    ·omega
    ·rename_i hq';exact hd c hp (.inr ⟨q,hq',hq⟩)
    ·rename_i hp' _;exact hd c hq (.inr ⟨p,hp',hp⟩)
    ·exact hdis p q c hpq hp hq
  have hsize:off<cs.size:=by omega
  have hget:l[off]?=some ((D.ptr l).dZ 0 off):=by
   simp only[D.dZ,List.getD_eq_getElem?_getD,List.getElem?_eq_getElem ho,Option.getD_some]
  refine⟨cs.getD off undef,Fs off,(fun c=>c=b\/∃j,j≠off/\Fs j c),?_,hr _ _ hget,fun c hc=>(hfs _ c hc).2,?_,?_,?_,?_⟩
  ·simp only[mj,dY,Option.bind_some,Nat.zero_add]
   exact dU hb hsize
  ·rintro c (rfl | ⟨j,_,hj⟩)
   ·exact hF
   ·exact(hfs j c hj).2
  ·rintro c hc (rfl | ⟨j,hne,hj⟩)
   ·exact(hfs _ c hc).1 rfl
   ·exact hdis _ _ c (Ne.symm hne) hc hj
  ·intro w' A' y F1' F' hA hwA hw hy hd hag h1 h2
   exact hset w' A' y F1' F' cs hA hwA (fun c hc _=>hw c hc) (by rw[hw b (.inl rfl)];exact hb) rfl (fun _ _=>rfl) hy hd h1 h2
  ·intro a ha
   simp only[dY,Option.some.injEq,Nat.zero_add] at ha;subst ha;refine⟨.inl rfl,rfl,dU hb hsize,by simp[World.frozen?,hb],fun u' w' A' y F1' F' hA hwA hw hwb hy hd hag h1 h2=>?_⟩;refine hset w' A' y F1' F' (cs.setIfInBounds off u') hA hwA hw (hwb.trans (wK u' hb)) (by simp) (fun j hj=>getD_set_ne _ (Ne.symm hj)) ?_ hd h1 h2;rw[o6 _ hsize];exact hy
theorem aj.un{w:World}{A:Nat->Prop}{v:Value}{x:D}{F:Nat->Prop}(h:aj w A v x F):x.un=x/\∀i off y,x.eG i off y=x.dx i off y:=by
 cases h<;>exact⟨rfl,fun _ _ _=>rfl⟩
theorem lz{w:World}{A:Nat->Prop}{v:Value}{x:D}{F:Nat->Prop}(h:aj w A v x F)(i off:Nat) :
  x.aX i off=x.dZ i off/\(x.lu i off↔x.fg i off)/\dK v x i off=dY v x i off/\cz w v x i off=mj w v x i off:=by
 obtain⟨h1,_⟩:=h.un;unfold D.aX D.lu dK cz;rw[h1];exact⟨rfl,Iff.rfl,rfl,rfl⟩
theorem ZJ(x:D)(i off:Nat)(y:D):(x.dx i off y).isAgg=x.isAgg:=by cases x<;>rfl
theorem zF{x:D}{i off:Nat}{y:D}(hk:x.fg i off)(hz:∀z l,(x=.slice z l\/x=.row z l)->∀e∈l,e.cells.length=z.cells.length)(hy:y.isAgg=(x.dZ i off).isAgg):x.iz i y:=by
 have key:∀(z:D)(l:List D),(∀e∈l,e.cells.length=z.cells.length)->i<l.length->off<z.cells.length->y.isAgg=((l.getD i z).cells.getD off .dead).isAgg->kI (l.getD i z) y:=by
  intro z l hz' h1 h2 hy;have hLi:l.getD i z=l[i]:=by rw[List.getD_eq_getElem?_getD,List.getElem?_eq_getElem h1];rfl
  have hl:=hz' l[i] (List.getElem_mem h1);rw[<-hLi] at hl;generalize l.getD i z=e at hl hy|-
  by_cases he:e.isAgg=true
  ·exact .inl he
  ·refine .inr ?_
   have he':e.isAgg=false:=by simpa using he
   rw[hy,D.cells_one he'];rw[D.cells_one he'] at hl;simp only[List.length_cons,List.length_nil] at hl;have:off=0:=by omega
   subst this;exact he'
 cases x<;>try trivial
 ·exact key _ _ (hz _ _ (.inl rfl)) hk.1 hk.2 hy
 ·exact key _ _ (hz _ _ (.inr rfl)) hk.1 hk.2 hy
theorem aj.oA{w:World}{A:Nat->Prop}{v:Value}{x:D}{F:Nat->Prop}(h:aj w A v x F):∀z l,(x=.slice z l\/x=.row z l)->∀e∈l,e.cells.length=z.cells.length:=by
 intro z l hx e he;cases h with
 | slice Fs hb hroom hc hm hz hzz hsz hr hF hfs hdis =>
  rcases hx with hx | hx<;>cases hx;rw[hzz];exact hsz e he
 | nil=>rcases hx with hx | hx<;>cases hx;cases he
 | _=>rcases hx with hx | hx<;>cases hx
theorem Bb{x:D}{p:Path}(hp:p≠[])(y:D)(hx:x.un=x):(x.setAt p y).isAgg=x.isAgg:=by
 cases p with
 | nil=>exact absurd rfl hp
 | cons s p =>
  obtain⟨i,off⟩:=s;simp only[D.setAt];cases x<;>simp only[D.un] at hx<;>first | rfl | (simp only[D.eG];exact ZJ _ _ _ _)
def ei(x:D):Path->D->Prop
 | [],_=>True
 | [(i,_)],y=>x.un.iz i y
 | (i,off)::p,y=>ei (x.aX i off) p y
theorem aj.splitAt{w:World}{A:Nat->Prop}:∀(p:Path){v:Value}{x:D}{F:Nat->Prop},aj w A v x F->x.has p ->
  ∃(u:Value)(F1 F2:Nat->Prop),aP w v x p=some u/\aj w A u (x.at p) F1/\(∀b,F1 b->F b)/\(∀b,F2 b->F b)/\(∀b,F1 b->¬F2 b) /\
   (∀(w':World)(A':Nat->Prop)(y:D)(F1' F':Nat->Prop),(∀b,A b->A' b)->(∀b,A b->w'.heap[b]?=w.heap[b]?)->(∀b,F2 b->w'.heap[b]?=w.heap[b]?)->aj w' A' u y F1'->(∀b,F1' b->¬F2 b) ->
     ei x p y->(∀b,F1' b->F' b)->(∀b,F2 b->F' b)->aj w' A' v (x.setAt p y) F') /\
   (∀a,aH w v x p=some a->F2 a.block/\a.spot=none/\w.cell? a=some u/\w.frozen? a=false /\
     ∀(u':Value)(w':World)(A':Nat->Prop)(y:D)(F1' F':Nat->Prop),(∀b,A b->A' b)->(∀b,A b->w'.heap[b]?=w.heap[b]?)->(∀b,F2 b->b≠a.block->w'.heap[b]?=w.heap[b]?) ->
      w'.heap[a.block]?=(w.setCell a u').heap[a.block]?->aj w' A' u' y F1'->(∀b,F1' b->¬F2 b) ->
      ei x p y->(∀b,F1' b->F' b)->(∀b,F2 b->F' b)->aj w' A' v (x.setAt p y) F')
 | [],v,x,F,h,_=>by
  refine⟨v,F,fun _=>False,rfl,h,fun _ h=>h,fun _ h=>h.elim,fun _ _ h=>h,?_,?_⟩
  ·intro w' A' y F1' F' _ _ _ hy _ _ h1 _
   exact hy.mono (fun _ h=>h) (fun _ _=>rfl) (fun _ _=>rfl) h1
  ·intro a ha;simp[aH] at ha
 | (i,off)::p,v,x,F,h,hp=>by
  obtain⟨hk,hp'⟩:=hp;obtain⟨e1,e2,e3,e4⟩:=lz h i off;obtain⟨hu,hun⟩:=h.un;obtain⟨u,F1,F2,g1,g2,g3,g4,g5,g6,g7⟩:=h.split (e2.1 hk);rw[<-e1] at g2;obtain⟨u',G1,G2,i1,i2,i3,i4,i5,i6,i7⟩:=aj.splitAt p g2 hp'
  have hok:∀y,ei x ((i,off)::p) y->x.iz i ((x.aX i off).setAt p y)/\ei (x.aX i off) p y:=by
   intro y hy;cases p with
   | nil=>simp only[ei,hu] at hy;exact⟨hy,trivial⟩
   | cons s p =>
    obtain⟨i2',off2⟩:=s;refine⟨zF (e2.1 hk) h.oA ?_,hy⟩;rw[Bb (by simp) y g2.un.1,e1]
  have hdisj:∀b,G1 b->¬(G2 b\/F2 b):=fun b hb hh=>hh.elim (i5 b hb) (g5 b (i3 b hb))
  refine⟨u',G1,fun b=>G2 b\/F2 b,?_,i2,fun b hb=>g3 b (i3 b hb),fun b hb=>hb.elim (fun h=>g3 b (i4 b h)) (g4 b),hdisj,?_,?_⟩
  ·simp only[aP,e4,g1,Option.bind_some];exact i1
  ·intro w' A' y F1' F' hA hwA hw hy hd hag h1 h2
   obtain⟨gm,ja⟩:=hok y hag;have hkid:=i6 w' A' y F1' (fun b=>F1' b\/G2 b) hA hwA (fun b hb=>hw b (.inl hb)) hy (fun b hb hg=>hd b hb (.inl hg)) ja (fun _ h=>.inl h) (fun _ h=>.inr h);simp only[D.setAt,hun]
   exact g6 w' A' _ _ F' hA hwA (fun b hb=>hw b (.inr hb)) hkid (fun b hb hf=>hb.elim (fun h=>hd b h (.inr hf)) fun h=>g5 b (i4 b h) hf) gm
    (fun b hb=>hb.elim (h1 b) fun h=>h2 b (.inl h)) (fun b hb=>h2 b (.inr hb))
  ·intro a ha
   cases p with
   | nil =>
    simp only[aH,e3] at ha;obtain⟨j1,j2,j3,j3',j4⟩:=g7 a ha;simp only[aP,Option.some.injEq] at i1;subst i1;refine⟨.inr j1,j2,j3,j3',fun u' w' A' y F1' F' hA hwA hw hwb hy hd hag h1 h2=>?_⟩;simp only[D.setAt,hun];exact j4 u' w' A' y F1' F' hA hwA (fun b hb hne=>hw b (.inr hb) hne) hwb hy (fun b hb hf=>hd b hb (.inr hf)) (hok y hag).1 h1 (fun b hb=>h2 b (.inr hb))
   | cons s p =>
    have ha':aH w u (x.aX i off) (s::p)=some a:=by
     obtain⟨i',off'⟩:=s;cases p<;>simpa only[aH,e4,g1,Option.bind_some] using ha
    obtain⟨j1,j2,j3,j3',j4⟩:=i7 a ha';refine⟨.inl j1,j2,j3,j3',fun u'' w' A' y F1' F' hA hwA hw hwb hy hd hag h1 h2=>?_⟩;obtain⟨gm,ja⟩:=hok y hag;have hkid:=j4 u'' w' A' y F1' (fun b=>F1' b\/G2 b) hA hwA (fun b hb hne=>hw b (.inl hb) hne) hwb hy (fun b hb hg=>hd b hb (.inl hg)) ja (fun _ h=>.inl h) (fun _ h=>.inr h);simp only[D.setAt,hun]
    exact g6 w' A' _ _ F' hA hwA (fun b hb=>hw b (.inr hb) (by rintro rfl;exact g5 _ (i4 _ j1) hb)) hkid (fun b hb hf=>hb.elim (fun h=>hd b h (.inr hf)) fun h=>g5 b (i4 b h) hf) gm
     (fun b hb=>hb.elim (h1 b) fun h=>h2 b (.inl h)) (fun b hb=>h2 b (.inr hb))
end Go.D3
namespace Go.D3
open Go
def D.isObj:D->Bool
 | .o _ | .box _ | .row _ _=>true
 | _=>false
def D.aZ:D->Path->Prop
 | .o x,p=>x.has p
 | .box _,[]=>True
 | .box l,(i,off)::p=>i=0/\off<l.length/\match p with
  | []=>True
  | s::p=>match l.getD off .dead with
   | .o y=>y.has (s::p)
   | _=>False
 | .row _ _,p=>p=[]
 | _,_=>False
def bp:D->Path->Bool
 | .box _,[_]=>true
 | _,_=>false
def D.iw:D->Bool
 | .o _=>true
 | _=>false
def D.eA(c:D)(p:Path):Prop:=c.aZ p/\(bp c p=true->(c.at p).iw=true)
def lQ(w:World)(ct:Nat->D)(vl:Nat->Value)(v:Value)(k:Nat)(p:Path):Prop :=
 (ct k).aZ p/\∃a,aH w (vl k) (ct k) p=some a/\v=.pointer (some a)
def WW(v:Value):Prop:=(∃q n c,v=.slice q n c)\/∃r,v=.map r
def af(w:World)(ct:Nat->D)(vl:Nat->Value)(v:Value):D->Prop
 | .sub k p=>(ct k).eA p/\aP w (vl k) (ct k) p=some v/\WW v
 | .av k p=>lQ w ct vl v k p
 | .pre k p n=>∃q m c,((ct k).eA p/\aP w (vl k) (ct k) p=some (.slice q m c))/\n<=m/\v=.slice q n c
 | _=>False
inductive Pl(w:World)(A:Nat->Prop)(R:Value->D->Prop):Value->D->Prop
 | rd {v:Value} {d:D} (h:Rd w A v d):Pl w A R v d
 | ref {v:Value} {d:D} (h:R v d):Pl w A R v d
 | agg {cs:Array Value} {l:List D} (hs:cs.size=l.length) (hr:∀j x,l[j]?=some x->Pl w A R (cs.getD j undef) x):Pl w A R (.agg cs) (.agg l)
 | al {cs:Array Value} {l:List D} (hs:cs.size=l.length) (hr:∀j x,l[j]?=some x->Pl w A R (cs.getD j undef) x):Pl w A R (.tuple cs) (.al l)
 | fn {f:FuncId} {cs:Array Value} {l:List D} (hs:cs.size=l.length) (hr:∀j x,l[j]?=some x->Pl w A R (cs.getD j undef) x):Pl w A R (.func (.func f) #[] cs) (.fn f l)
def D.pc:D->Bool
 | .agg _ | .al _ | .box _ | .row _ _ | .when _ _ | .o _ | .vw _ | .pre _ _ _=>false
 | _=>true
def bV(w:World)(A:Nat->Prop)(R:Value->D->Prop)(v:Value)(F:Nat->Prop):D->Prop
 | .o x=>aj w A v x F
 | .box _ | .row _ _ | .when _ _ | .agg _ | .al _ | .vw _ | .pre _ _ _=>False
 | c=>Pl w A R v c
def qh(w:World)(A:Nat->Prop)(R:Value->D->Prop)(v:Value)(F:Nat->Prop)(l:List D):Prop :=
 0<l.length/\∃(b:Nat)(cs:Array Value)(e:TypeId)(Fs:Nat->Nat->Prop),v=.pointer (some ⟨b,0,none⟩)/\w.heap[b]?=some (.cells cs e (0,0))/\cs.size=l.length /\
  (∀j c,l[j]?=some c->bV w A R (cs.getD j undef) (Fs j) c)/\F b/\(∀j c,Fs j c->c≠b/\F c)/\(∀i j c,i≠j->Fs i c->¬Fs j c)
def D0(w:World)(A:Nat->Prop)(R:Value->D->Prop)(v:Value)(F:Nat->Prop)(z:D)(l:List D):Prop :=
 ∃(b sz:Nat)(cs:Array Value)(e:TypeId),v=.slice (some ⟨b,0,none⟩) l.length l.length/\w.heap[b]?=some (.cells cs e (0,0))/\cs.size=l.length*sz/\l.length<=maxLen /\
  0<sz/\z.cells.length=sz/\(∀x∈l,x.cells.length=sz) /\
  (∀j c,cellAt l sz j=some c->Pl w A R (cs.getD j undef) c/\c.pc=true)/\F b
def aI(w:World)(A:Nat->Prop)(R:Value->D->Prop)(v:Value)(F:Nat->Prop):D->Prop
 | .o x=>aj w A v x F
 | .box l=>qh w A R v F l
 | .row z l=>D0 w A R v F z l
 | .when g c=>(g=true->Pl w A R v c)/\(g=false->v=undef)
 | c=>Pl w A R v c
mutual
def D.refs(Q:D->Prop):D->Prop
 | .sub k p=>Q (.sub k p)
 | .av k p=>Q (.av k p)
 | .pre k p _=>Q (.sub k p)
 | .fn _ caps=>bH Q caps
 | .agg l=>bH Q l
 | .al l=>bH Q l
 | .box l=>bH Q l
 | .row _ l=>bH Q l
 | .when _ x=>x.refs Q
 | _=>True
def bH(Q:D->Prop):List D->Prop
 | []=>True
 | x::r=>x.refs Q/\bH Q r
end
mutual
def D.kill(q:D->Bool):D->D
 | .sub k p=>if q (.sub k p) then .dead else .sub k p
 | .av k p=>if q (.av k p) then .dead else .av k p
 | .pre k p n=>if q (.sub k p) then .dead else .pre k p n
 | .fn f caps=>.fn f (eB q caps)
 | .agg l=>.agg (eB q l)
 | .al l=>.al (eB q l)
 | .box l=>.box (eB q l)
 | .row z l=>.row z (eB q l)
 | .when g x=>.when g (x.kill q)
 | x=>x
def eB(q:D->Bool):List D->List D
 | []=>[]
 | x::r=>x.kill q::eB q r
end
mutual
def D.ay(σ:Nat->Nat):D->D
 | .sub k p=>.sub (σ k) p
 | .av k p=>.av (σ k) p
 | .pre k p n=>.pre (σ k) p n
 | .fn f caps=>.fn f (dE σ caps)
 | .agg l=>.agg (dE σ l)
 | .al l=>.al (dE σ l)
 | .box l=>.box (dE σ l)
 | .row z l=>.row z (dE σ l)
 | .when g x=>.when g (x.ay σ)
 | x=>x
def dE(σ:Nat->Nat):List D->List D
 | []=>[]
 | x::r=>x.ay σ::dE σ r
end
theorem bt{Q:D->Prop}:∀{l:List D},bH Q l↔∀x∈l,x.refs Q
 | []=>by simp[bH]
 | x::r=>by simp only[bH,bt (l:=r),List.mem_cons,forall_eq_or_imp]
theorem dP(q:D->Bool):∀l,eB q l=l.map (D.kill q)
 | []=>rfl
 | x::r=>by rw[eB,dP q r,List.map_cons]
theorem D.ind{M:D->Prop}(int:∀k n,M (.int k n))(bool:∀b,M (.bool b))(str:∀s,M (.str s))(slice:∀z l,M z->(∀x∈l,M x)->M (.slice z l))
  (agg:∀l,(∀x∈l,M x)->M (.agg l)) (al:∀l,(∀x∈l,M x)->M (.al l)) (ptr:∀l,(∀x∈l,M x)->M (.ptr l)) (bc:M .bc) (fn:∀f caps,(∀x∈caps,M x)->M (.fn f caps))
  (vw:∀x,M x->M (.vw x)) (o:∀x,M x->M (.o x)) (box:∀l,(∀x∈l,M x)->M (.box l)) (row:∀z l,M z->(∀x∈l,M x)->M (.row z l))
  (sub:∀k p,M (.sub k p)) (av:∀k p,M (.av k p)) (pre:∀k p n,M (.pre k p n)) (when:∀g x,M x->M (.when g x)) (aB:∀z,M z->M (.aB z)) (dead:M .dead)
  (mp:∀ks vs,(∀x∈ks,M x)->(∀x∈vs,M x)->M (.mp ks vs)) (bJ:M .bJ) (bf:∀t x,M x->M (.bf t x)) (aY:M .aY) (bL:∀s p,M (.bL s p)) (eo:∀n,M (.eo n)):∀d,M d:=fun d =>
 D.rec (motive_1:=M) (motive_2:=fun l=>∀x∈l,M x) int bool str slice agg al ptr bc fn vw o box row sub av pre when aB dead mp bJ bf aY bL eo (by simp) (fun x r hx hr=>by simp;exact⟨hx,hr⟩) d
section
variable{w w':World}{A A':Nat->Prop}{R R':Value->D->Prop}{v:Value}{F F':Nat->Prop}
theorem Pl.mono{Q:D->Prop}{c:D}(h:Pl w A R v c):(∀b,A b->A' b)->(∀b,A b->w'.heap[b]?=w.heap[b]?)->c.refs Q ->
  (∀v d,d.refs Q->R v d->R' v d)->Pl w' A' R' v c:=by
 induction h with
 | rd h=>exact fun hA hw _ _=>.rd (h.mono hA hw)
 | ref h=>exact fun _ _ hq hR=>.ref (hR _ _ hq h)
 | agg hs _ ih=>exact fun hA hw hq hR=>.agg hs fun j x hx=>ih j x hx hA hw (bt.1 hq x (List.mem_of_getElem? hx)) hR
 | al hs _ ih=>exact fun hA hw hq hR=>.al hs fun j x hx=>ih j x hx hA hw (bt.1 hq x (List.mem_of_getElem? hx)) hR
 | fn hs _ ih=>exact fun hA hw hq hR=>.fn hs fun j x hx=>ih j x hx hA hw (bt.1 hq x (List.mem_of_getElem? hx)) hR
theorem bV.mono{Q:D->Prop}{c:D}(h:bV w A R v F c)(hA:∀b,A b->A' b)(hwA:∀b,A b->w'.heap[b]?=w.heap[b]?)(hwF:∀b,F b->w'.heap[b]?=w.heap[b]?)(hF:∀b,F b->F' b)
  (hq:c.refs Q) (hR:∀v d,d.refs Q->R v d->R' v d):bV w' A' R' v F' c:=by
 cases c<;>first | exact Pl.mono h hA hwA hq hR | exact h.elim | exact aj.mono h hA hwA hwF hF
theorem WY{Q:D->Prop}{x c:D}(h:x.refs Q)(hc:c∈x.cells):c.refs Q:=by
 cases x<;>simp only[D.cells,List.mem_singleton] at hc<;>first | (subst hc;exact h) | exact bt.1 h c hc
theorem Je{Q:D->Prop}{l:List D}{sz j:Nat}{c:D}(h:∀x∈l,x.refs Q)(hc:cellAt l sz j=some c):c.refs Q:=by
 unfold cellAt at hc;cases hL:l[j / sz]? with
 | none=>simp[hL] at hc
 | some d =>
  rw[hL,Option.bind_some] at hc;exact WY (h d (List.mem_of_getElem? hL)) (List.mem_of_getElem? hc)
theorem aI.mono{Q:D->Prop}{c:D}:∀{F F':Nat->Prop},aI w A R v F c->(∀b,A b->A' b)->(∀b,A b->w'.heap[b]?=w.heap[b]?)->(∀b,F b->w'.heap[b]?=w.heap[b]?)->(∀b,F b->F' b) ->
  c.refs Q->(∀v d,d.refs Q->R v d->R' v d)->aI w' A' R' v F' c:=by
 induction c using D.ind with
 | o x _=>exact fun h hA hwA hwF hF _ _=>aj.mono h hA hwA hwF hF
 | box l _ =>
  rintro F F' ⟨h0,b,cs,e,Fs,h1,h2,h3,h4,h5,h6,h7⟩ hA hwA hwF hF hq hR;replace hq:=bt.1 hq
  exact⟨h0,b,cs,e,Fs,h1,(hwF b h5).trans h2,h3,fun j c hj=>(h4 j c hj).mono hA hwA (fun d hd=>hwF d (h6 j d hd).2) (fun _ h=>h) (hq c (List.mem_of_getElem? hj)) hR,hF b h5,
   fun j c hj=>⟨(h6 j c hj).1,hF c (h6 j c hj).2⟩,h7⟩
 | row z l _ _ =>
  rintro F F' ⟨b,sz,cs,e,h1,h2,h3,h3',h3'',h3a,h3b,h4,h5⟩ hA hwA hwF hF hq hR;replace hq:=bt.1 hq;exact⟨b,sz,cs,e,h1,(hwF b h5).trans h2,h3,h3',h3'',h3a,h3b,fun j c hj=>⟨(h4 j c hj).1.mono hA hwA (Je hq hj) hR,(h4 j c hj).2⟩,hF b h5⟩
 | when g c ih =>
  exact fun h hA hwA _ _ hq hR=>⟨fun hg=>Pl.mono (h.1 hg) hA hwA hq hR,h.2⟩
 | _=>exact fun h hA hwA _ _ hq hR=>Pl.mono h hA hwA hq hR
theorem iV(q:D->Bool)(c:D):(c.kill q).refs fun d=>q d=false:=by
 induction c using D.ind with
 | sub k p=>simp only[D.kill];split<;>simp_all[D.refs]
 | av k p=>simp only[D.kill];split<;>simp_all[D.refs]
 | pre k p n=>simp only[D.kill];split<;>simp_all[D.refs]
 | agg l ih | al l ih | box l ih | fn _ l ih=>simp only[D.kill,D.refs,bt,dP,List.mem_map];rintro _ ⟨y,hy,rfl⟩;exact ih y hy
 | row z l _ ih=>simp only[D.kill,D.refs,bt,dP,List.mem_map];rintro _ ⟨y,hy,rfl⟩;exact ih y hy
 | when g x ih=>exact ih
 | _=>trivial
theorem Pl.dead:Pl w A R v .dead:=.rd .dead
theorem Rd.kill{q:D->Bool}{d:D}(h:Rd w A v d):Rd w A v (d.kill q):=by
 induction h with
 | agg hs _ ih =>
  refine .agg (by simpa[dP] using hs) fun j x hx=>?_
  rw[dP,List.getElem?_map,Option.map_eq_some_iff] at hx;obtain⟨y,hy,rfl⟩:=hx;exact ih j y hy
 | al hs _ ih =>
  refine .al (by simpa[dP] using hs) fun j x hx=>?_
  rw[dP,List.getElem?_map,Option.map_eq_some_iff] at hx;obtain⟨y,hy,rfl⟩:=hx;exact ih j y hy
 | int h=>exact .int h
 | bool=>exact .bool
 | str h=>exact .str h
 | nil=>exact .nil
 | empty h=>exact .empty h
 | slice hA hc hm hz hzz hsz vs hcells hr ih=>exact .slice hA hc hm hz hzz hsz vs hcells hr
 | ptr hA vs hcells hr ih=>exact .ptr hA vs hcells hr
 | bc=>exact .bc
 | fn hs _ ih =>
  refine .fn (by simpa[dP] using hs) fun j x hx=>?_
  rw[dP,List.getElem?_map,Option.map_eq_some_iff] at hx;obtain⟨y,hy,rfl⟩:=hx;exact ih j y hy
 | vw h=>exact .vw h
 | o h=>exact .o h
 | aB=>exact .aB
 | dead=>exact .dead
 | mp hA hb hE=>exact .mp hA hb hE
 | bJ=>exact .bJ
 | bf h ih=>exact .bf h
 | aY=>exact .aY
 | bL hA hb hs=>exact .bL hA hb hs
 | eo hA hc=>exact .eo hA hc
theorem Pl.kill{q:D->Bool}{c:D}(h:Pl w A R v c)(hR:∀v d,R v d->(∃k p,d=.sub k p)\/(∃k p,d=.av k p)\/(∃k p n,d=.pre k p n)):Pl w A R v (c.kill q):=by
 induction h with
 | rd h=>exact .rd h.kill
 | @ref v d h =>
  rcases hR v d h with⟨k,p,rfl⟩ | ⟨k,p,rfl⟩ | ⟨k,p,n,rfl⟩
  ·simp only[D.kill];split
   ·exact .dead
   ·exact .ref h
  ·simp only[D.kill];split
   ·exact .dead
   ·exact .ref h
  ·simp only[D.kill];split
   ·exact .dead
   ·exact .ref h
 | agg hs _ ih =>
  refine .agg (by simpa[dP] using hs) fun j x hx=>?_
  rw[dP] at hx;rw[List.getElem?_map,Option.map_eq_some_iff] at hx;obtain⟨y,hy,rfl⟩:=hx;exact ih j y hy
 | al hs _ ih =>
  refine .al (by simpa[dP] using hs) fun j x hx=>?_
  rw[dP] at hx;rw[List.getElem?_map,Option.map_eq_some_iff] at hx;obtain⟨y,hy,rfl⟩:=hx;exact ih j y hy
 | fn hs _ ih =>
  refine .fn (by simpa[dP] using hs) fun j x hx=>?_
  rw[dP] at hx;rw[List.getElem?_map,Option.map_eq_some_iff] at hx;obtain⟨y,hy,rfl⟩:=hx;exact ih j y hy
theorem af.form{ct:Nat->D}{vl:Nat->Value}(v:Value)(d:D)(h:af w ct vl v d):(∃k p,d=.sub k p)\/(∃k p,d=.av k p)\/(∃k p n,d=.pre k p n):=by
 cases d<;>first | exact .inl ⟨_,_,rfl⟩ | exact .inr (.inl ⟨_,_,rfl⟩) | exact .inr (.inr ⟨_,_,_,rfl⟩) | exact h.elim
theorem bV.kill{q:D->Bool}{c:D}(h:bV w A R v F c)(hR:∀v d,R v d->(∃k p,d=.sub k p)\/(∃k p,d=.av k p)\/(∃k p n,d=.pre k p n)):bV w A R v F (c.kill q):=by
 cases c
 case sub k p=>have:=Pl.kill (q:=q) h hR;simp only[D.kill] at this|-;split<;>simp_all[bV]
 case av k p=>have:=Pl.kill (q:=q) h hR;simp only[D.kill] at this|-;split<;>simp_all[bV]
 case fn k p=>have:=Pl.kill (q:=q) h hR;simp only[D.kill] at this|-;exact this
 case o x=>exact h
 all_goals first | exact h | exact h.elim
theorem GU(q:D->Bool)(x:D):(x.kill q).cells=x.cells.map (D.kill q):=by
 cases x<;>first | rfl | (simp only[D.kill,D.cells,List.map_cons,List.map_nil,dP];done) | (simp only[D.kill,D.cells,List.map_cons,List.map_nil];by_cases h:q (.sub ‹_› ‹_›)=true<;>simp[h];done) | (simp only[D.kill];split<;>rename_i h<;>simp[D.cells,D.kill,h])
theorem QJ(q:D->Bool){c:D}(h:c.pc=true):(c.kill q).pc=true:=by
 cases c<;>first | exact h | (simp only[D.kill];split<;>rfl) | (simp[D.pc] at h)
theorem OH(q:D->Bool)(l:List D)(sz j:Nat):cellAt (l.map (D.kill q)) sz j=(cellAt l sz j).map (D.kill q):=by
 unfold cellAt;rw[List.getElem?_map];cases l[j / sz]? with
 | none=>rfl
 | some d=>simp only[Option.map_some,Option.bind_some,GU,List.getElem?_map]
theorem aI.kill{q:D->Bool}{c:D}(hR:∀v d,R v d->(∃k p,d=.sub k p)\/(∃k p,d=.av k p)\/(∃k p n,d=.pre k p n)):∀{F:Nat->Prop},aI w A R v F c->aI w A R v F (c.kill q):=by
 induction c using D.ind with
 | o x _=>exact fun h=>h
 | box l _ =>
  rintro F ⟨h0,b,cs,e,Fs,h1,h2,h3,h4,h5,h6,h7⟩;rw[D.kill,dP];refine⟨by simpa using h0,b,cs,e,Fs,h1,h2,by simpa using h3,fun j c hj=>?_,h5,h6,h7⟩;rw[List.getElem?_map,Option.map_eq_some_iff] at hj;obtain⟨y,hy,rfl⟩:=hj;exact(h4 j y hy).kill hR
 | row z l _ _ =>
  rintro F ⟨b,sz,cs,e,h1,h2,h3,h3',h3'',h3a,h3b,h4,h5⟩;rw[D.kill,dP];refine⟨b,sz,cs,e,by simpa using h1,h2,by simpa using h3,by simpa using h3',h3'',h3a,fun x hx=>?_,fun j c hj=>?_,h5⟩
  ·obtain⟨y,hy,rfl⟩:=List.mem_map.1 hx
   rw[GU,List.length_map];exact h3b y hy
  ·rw[OH,Option.map_eq_some_iff] at hj
   obtain⟨y,hy,rfl⟩:=hj;exact⟨(h4 j y hy).1.kill hR,QJ _ (h4 j y hy).2⟩
 | when g c ih=>exact fun h=>⟨fun hg=>Pl.kill (h.1 hg) hR,h.2⟩
 | sub k p=>intro F h;have:=Pl.kill (q:=q) h hR;simp only[D.kill] at this|-;split<;>simp_all[aI]
 | av k p=>intro F h;have:=Pl.kill (q:=q) h hR;simp only[D.kill] at this|-;split<;>simp_all[aI]
 | pre k p n=>intro F h;have:=Pl.kill (q:=q) h hR;simp only[D.kill] at this|-;split<;>simp_all[aI]
 | fn k p=>intro F h;have:=Pl.kill (q:=q) h hR;simp only[D.kill] at this|-;exact this
 | _=>exact fun h=>Pl.kill (q:=q) h hR
end
end Go.D3
namespace Go.D3
open Go
class Mode where
 mono:Bool
def cJ[Mode](w w':World):Prop:=w'.output=w.output/\(Mode.mono=true->w.drawn<=w'.drawn)
theorem cJ.refl[Mode](w:World):cJ w w:=⟨rfl,fun _=>Nat.le_refl _⟩
theorem cJ.trans[Mode]{a b c:World}(h:cJ b c)(g:cJ a b):cJ a c:=⟨h.1.trans g.1,fun m=>Nat.le_trans (g.2 m) (h.2 m)⟩
theorem cJ.le[Mode]{w w':World}(h:w'.output=w.output)(d:w.drawn<=w'.drawn):cJ w w':=⟨h,fun _=>d⟩
theorem cJ.of[Mode]{w w':World}(h:w'.output=w.output)(d:w'.drawn=w.drawn):cJ w w':=⟨h,fun _=>Nat.le_of_eq d.symm⟩
structure Ctx where
 w0:World
 F0:Nat->Prop
 A0:Nat->Prop
 gv:Nat->Value
 hA:∀b,A0 b->b<w0.heap.size/\¬F0 b
 hg:fb w0 A0
 sA:List Deferred
def aq(cx:Ctx)(fp:Nat->Nat->Prop)(G:Nat->Prop)(w:World)(b:Nat):Prop:=(b<w.heap.size/\(b<cx.w0.heap.size->cx.A0 b))/\¬G b/\∀k,¬fp k b
structure Hp[Mode](cx:Ctx)(ct:Nat->D)(vl:Nat->Value)(fp:Nat->Nat->Prop)(G:Nat->Prop)(w:World):Prop where
 ok:∀k,aI w (aq cx fp G w) (af w ct vl) (vl k) (fp k) (ct k)
 b7:∀j k,j≠k->∀b,fp j b->¬fp k b
 cC:∀k b,fp k b->¬G b
 emp:∀k,(ct k).isObj=false->∀b,¬fp k b
 lt:∀k b,fp k b->b<w.heap.size/\(cx.F0 b\/cx.w0.heap.size<=b)
 cY:∀b,G b->b<w.heap.size/\(cx.F0 b\/cx.w0.heap.size<=b)
 size:cx.w0.heap.size<=w.heap.size
 same:∀b,b<cx.w0.heap.size->¬cx.F0 b->w.heap[b]?=cx.w0.heap[b]?
 os:w.os=cx.w0.os
 tape:w.tape=cx.w0.tape
 output:cJ cx.w0 w
theorem Hp.gl[Mode]{cx:Ctx}{ct:Nat->D}{vl:Nat->Value}{fp:Nat->Nat->Prop}{G:Nat->Prop}{w:World}(h:Hp cx ct vl fp G w):fb w (aq cx fp G w):=by
 refine cx.hg.mono (fun b hb=>?_) fun b hb=>h.same b (cx.hA b hb).1 (cx.hA b hb).2
 obtain⟨h1,h2⟩:=cx.hA b hb;have:=h.size;exact⟨⟨by omega,fun _=>hb⟩,fun hg=>(h.cY b hg).2.elim h2 (by omega),fun k hk=>(h.lt k b hk).2.elim h2 (by omega)⟩
def aA{α:Type}(f:Nat->α)(k:Nat)(x:α):Nat->α:=fun j=>if j=k then x else f j
theorem ba{α:Type}(f:Nat->α)(k:Nat)(x:α):aA f k x k=x:=by simp[aA]
theorem aG{α:Type}(f:Nat->α){j k:Nat}(x:α)(h:j≠k):aA f k x j=f j:=by simp[aA,h]
theorem DP{w w':World}{A:Nat->Prop}:∀(p:Path){v:Value}{x:D}{F:Nat->Prop},aj w A v x F->x.has p->(∀b,F b->w'.heap[b]?=w.heap[b]?) ->
  aP w' v x p=aP w v x p/\aH w' v x p=aH w v x p
 | [],v,x,F,h,_,_=>⟨rfl,rfl⟩
 | (i,off)::p,v,x,F,h,hp,hw=>by
  obtain⟨hk,hp'⟩:=hp;obtain⟨e1,e2,e3,e4⟩:=lz h i off;obtain⟨u,F1,F2,g1,g2,g3,g4,g5,g6,g7⟩:=h.split (e2.1 hk)
  have hkv:cz w' v x i off=some u:=by
   obtain⟨hu,_⟩:=h.un;unfold cz;rw[hu];cases x<;>try exact(e2.1 hk).elim
   all_goals first
    | exact g1
    | (simp only[mj] at g1|-
       generalize ha:dY v _ i off=a at g1|-
       cases a with
       | none=>simp at g1
       | some a =>
        obtain⟨j1,j2,j3,_⟩:=g7 a ha;simp only[Option.bind_some] at g1|-
        rw[<-g1];obtain⟨ab,ao,as⟩:=a;simp only at j2;cases as with
        | some _=>simp at j2
        | none=>exact cell_of_heap (hw _ (g4 _ j1)))
  rw[<-e1] at g2;obtain⟨i1,i2⟩:=DP p g2 hp' fun b hb=>hw b (g3 b hb)
  rw[<-e4] at g1;refine⟨by simp only[aP,hkv,g1,Option.bind_some];exact i1,?_⟩;cases p with
  | nil=>rfl
  | cons s p=>simp only[aH,hkv,g1,Option.bind_some];exact i2
theorem ig{w:World}{A:Nat->Prop}{v:Value}{x:D}{F:Nat->Prop}(h:aj w A v x F)(w':World)(p:Path):aP w' v (.o x) p=aP w' v x p/\aH w' v (.o x) p=aH w' v x p:=by
 obtain⟨hu,_⟩:=h.un;cases p with
 | nil=>exact⟨rfl,rfl⟩
 | cons s p =>
  obtain⟨i,off⟩:=s;have e1:cz w' v (.o x) i off=cz w' v x i off:=by unfold cz;rw[hu];rfl
  have e2:D.aX (.o x) i off=x.aX i off:=by unfold D.aX;rw[hu];rfl
  have e3:dK v (.o x) i off=dK v x i off:=by unfold dK;rw[hu];rfl
  refine⟨by simp only[aP,e1,e2],?_⟩;cases p with
  | nil=>simp only[aH,e3]
  | cons t p=>simp only[aH,e1,e2]
theorem gN{w w':World}{A:Nat->Prop}{R:Value->D->Prop}{v:Value}{c:D}{F:Nat->Prop}{p:Path}(h:aI w A R v F c)(hp:c.aZ p)(hw:∀b,F b->w'.heap[b]?=w.heap[b]?) :
  aP w' v c p=aP w v c p/\aH w' v c p=aH w v c p:=by
 cases c<;>try exact hp.elim
 case o x =>
  obtain⟨a1,a2⟩:=ig h w p;obtain⟨b1,b2⟩:=ig h w' p;obtain⟨c1,c2⟩:=DP p h hp hw;exact⟨by rw[a1,b1,c1],by rw[a2,b2,c2]⟩
 case row z l=>simp only[D.aZ] at hp;subst hp;exact⟨rfl,rfl⟩
 case box l =>
  cases p with
  | nil=>exact⟨rfl,rfl⟩
  | cons s p =>
   obtain⟨i,off⟩:=s;obtain⟨_,b,cs,e,Fs,h1,h2,h3,h4,h5,h6,h7⟩:=h;obtain⟨rfl,ho,hp⟩:=hp;subst h1
   have hcell:∀w'',w''.heap[b]?=w.heap[b]?->cz w'' (.pointer (some ⟨b,0,none⟩)) (.box l) 0 off=some (cs.getD off undef):=by
    intro w'' hb;show w''.cell? ⟨b,0+off,none⟩=_;rw[Nat.zero_add];exact dU (hb.trans h2) (by omega)
   have e1:=hcell w rfl;have e2:=hcell w' (hw b h5);cases p with
   | nil=>exact⟨by simp only[aP,e1,e2],rfl⟩
   | cons t p =>
    have hk:D.aX (.box l) 0 off=l.getD off .dead:=rfl;simp only at hp;split at hp
    ·rename_i y hy
     have hget:l[off]?=some (.o y):=by
      rw[List.getElem?_eq_getElem ho];rw[List.getD_eq_getElem?_getD,List.getElem?_eq_getElem ho] at hy;simpa using hy
     have hown:=h4 off _ hget;simp only[bV] at hown;obtain⟨a1,a2⟩:=ig hown w (t::p);obtain⟨b1,b2⟩:=ig hown w' (t::p);obtain⟨c1,c2⟩:=DP (w':=w') (t::p) hown hp fun d hd=>hw d (h6 _ d hd).2
     rw[<-hy,<-hk] at a1 a2 b1 b2;constructor
     ·have:∀w'',cz w'' (.pointer (some ⟨b,0,none⟩)) (.box l) 0 off=some (cs.getD off undef)->aP w'' (.pointer (some ⟨b,0,none⟩)) (.box l) ((0,off)::t::p)=aP w'' (cs.getD off undef) (D.aX (.box l) 0 off) (t::p):=by
       intro w'' he;rw[aP,he,Option.bind_some]
      rw[this w' e2,this w e1,a1,b1,c1]
     ·have:∀w'',cz w'' (.pointer (some ⟨b,0,none⟩)) (.box l) 0 off=some (cs.getD off undef)->aH w'' (.pointer (some ⟨b,0,none⟩)) (.box l) ((0,off)::t::p)=aH w'' (cs.getD off undef) (D.aX (.box l) 0 off) (t::p):=by
       intro w'' he;rw[aH,he,Option.bind_some];simp
      rw[this w' e2,this w e1,a2,b2,c2]
    ·exact hp.elim
def cX(w w':World)(ct ct':Nat->D)(vl vl':Nat->Value):D->Prop
 | .sub k p=>(ct k).eA p->(ct' k).eA p/\aP w' (vl' k) (ct' k) p=aP w (vl k) (ct k) p
 | .av k p=>(ct k).aZ p->(ct' k).aZ p/\aH w' (vl' k) (ct' k) p=aH w (vl k) (ct k) p
 | _=>True
theorem af.bW{w w':World}{ct ct':Nat->D}{vl vl':Nat->Value}{v:Value}{d:D}(h:af w ct vl v d)(hq:d.refs (cX w w' ct ct' vl vl')):af w' ct' vl' v d:=by
 cases d<;>try exact h.elim
 case sub k p =>
  obtain⟨h1,h2,h2'⟩:=h;obtain⟨h3,h4⟩:=hq h1;exact⟨h3,h4.trans h2,h2'⟩
 case av k p =>
  obtain⟨h1,a,h2,h2'⟩:=h;obtain⟨h3,h4⟩:=hq h1;exact⟨h3,a,h4.trans h2,h2'⟩
 case pre k p n =>
  obtain⟨q,m,c,⟨h1,h2⟩,h2'⟩:=h;obtain⟨h3,h4⟩:=hq h1;exact⟨q,m,c,⟨h3,h4.trans h2⟩,h2'⟩
theorem dc{Q Q':D->Prop}{c:D}(h:∀d,Q d->Q' d)(hc:c.refs Q):c.refs Q':=by
 induction c using D.ind with
 | agg l ih | al l ih | box l ih | fn _ l ih=>exact bt.2 fun x hx=>ih x hx (bt.1 hc x hx)
 | row z l _ ih=>exact bt.2 fun x hx=>ih x hx (bt.1 hc x hx)
 | when g x ih=>exact ih hc
 | sub k p=>exact h _ hc
 | av k p=>exact h _ hc
 | pre k p n=>exact h _ hc
 | _=>trivial
theorem bn{Q:D->Prop}(h:∀d,Q d)(c:D):c.refs Q:=by
 induction c using D.ind with
 | agg l ih | al l ih | box l ih | fn _ l ih=>exact bt.2 ih
 | row z l _ ih=>exact bt.2 ih
 | when g x ih=>exact ih
 | sub k p=>exact h _
 | av k p=>exact h _
 | pre k p n=>exact h _
 | _=>trivial
theorem Rd.zx{w:World}{A:Nat->Prop}{v:Value}{d:D}(h:Rd w A v d)(Q:D->Prop):d.refs Q:=by
 induction h with
 | agg hs _ ih=>exact bt.2 fun x hx=>by obtain⟨j,hj,rfl⟩:=List.getElem_of_mem hx;exact ih j _ (List.getElem?_eq_getElem hj)
 | al hs _ ih=>exact bt.2 fun x hx=>by obtain⟨j,hj,rfl⟩:=List.getElem_of_mem hx;exact ih j _ (List.getElem?_eq_getElem hj)
 | fn hs _ ih=>exact bt.2 fun x hx=>by obtain⟨j,hj,rfl⟩:=List.getElem_of_mem hx;exact ih j _ (List.getElem?_eq_getElem hj)
 | _=>trivial
section
variable{cx:Ctx}{ct:Nat->D}{vl:Nat->Value}{fp:Nat->Nat->Prop}{G:Nat->Prop}{w:World}
theorem vz(q:D->Bool)(l:List D)(n:Nat):(eB q l).getD n .dead=(l.getD n .dead).kill q:=by
 rw[dP,List.getD_eq_getElem?_getD,List.getD_eq_getElem?_getD,List.getElem?_map];cases l[n]?<;>rfl
theorem QI{q:D->Bool}{c y:D}:c.kill q=.o y↔c=.o y:=by
 cases c<;>simp only[D.kill,reduceCtorEq]<;>split<;>simp
theorem qW(q:D->Bool){c:D}{p:Path}(hp:c.aZ p)(hl:bp (c.kill q) p=true):bp c p=true/\((c.at p).iw=true->((c.kill q).at p).iw=true):=by
 cases c<;>try exact hp.elim
 case o x=>cases hl
 case row z l=>cases hl
 case box l =>
  cases p with
  | nil=>cases hl
  | cons s p =>
   obtain⟨i,off⟩:=s;cases p with
   | cons t p=>cases hl
   | nil =>
    refine⟨rfl,fun h=>?_⟩;have e1:(D.box l).at [(i,off)]=l.getD off .dead:=rfl;have e2:((D.box l).kill q).at [(i,off)]=(l.getD off .dead).kill q:=vz q l off;rw[e1] at h;rw[e2];generalize l.getD off .dead=c at h;cases c<;>first | rfl | cases h
theorem kA(q:D->Bool)(c:D)(v:Value)(p:Path)(h:c.aZ p):(c.kill q).aZ p/\aP w v (c.kill q) p=aP w v c p/\aH w v (c.kill q) p=aH w v c p:=by
 cases c<;>try exact h.elim
 case o x=>exact⟨h,rfl,rfl⟩
 case row z l=>simp only[D.aZ] at h;subst h;exact⟨rfl,rfl,rfl⟩
 case box l =>
  cases p with
  | nil=>exact⟨trivial,rfl,rfl⟩
  | cons s p =>
   obtain⟨i,off⟩:=s;obtain⟨rfl,ho,hp⟩:=h;have hk:D.aX (.box (eB q l)) 0 off=(l.getD off .dead).kill q:=vz q l off;have hkv:cz w v (.box (eB q l)) 0 off=cz w v (.box l) 0 off:=rfl;cases p with
   | nil=>exact⟨⟨rfl,by simpa[dP] using ho,trivial⟩,by simp only[D.kill,aP,hkv],rfl⟩
   | cons t p =>
    simp only at hp;split at hp
    ·rename_i y hy
     have hy':(l.getD off .dead).kill q=.o y:=QI.2 hy;have hk':D.aX (.box l) 0 off=.o y:=hy;rw[hy'] at hk;refine⟨⟨rfl,by simpa[dP] using ho,?_⟩,?_,?_⟩
     ·simp only[vz,hy'];exact hp
     ·simp only[D.kill];rw[aP,aP,hkv,hk,hk']
     ·simp only[D.kill];rw[aH,aH,hkv,hk,hk']<;>simp
    ·exact hp.elim
theorem Qj(q:D->Bool)(c:D):(c.kill q).isObj=c.isObj:=by
 cases c<;>first | rfl | (simp only[D.kill];split<;>rfl)
theorem Hp.kill[Mode](h:Hp cx ct vl fp G w)(q:D->Bool):Hp cx (fun k=>(ct k).kill q) vl fp G w where
 ok k:=by
  refine((h.ok k).kill (q:=q) af.form).mono (Q:=fun _=>True) (fun _ h=>h) (fun _ _=>rfl) (fun _ _=>rfl) (fun _ h=>h) (bn (fun _=>trivial) _) fun v d _ hr=>?_
  refine hr.bW (bn (fun d=>?_) _);cases d<;>try trivial
  case sub k p=>exact fun hp=>⟨⟨(kA (w:=w) q (ct k) (vl k) p hp.1).1,fun hl=>(qW q hp.1 hl).2 (hp.2 (qW q hp.1 hl).1)⟩,(kA q (ct k) (vl k) p hp.1).2.1⟩
  case av k p=>exact fun hp=>⟨(kA (w:=w) q (ct k) (vl k) p hp).1,(kA q (ct k) (vl k) p hp).2.2⟩
 b7:=h.b7
 cC:=h.cC
 emp k hk:=h.emp k (by rwa [Qj] at hk)
 lt:=h.lt
 cY:=h.cY
 size:=h.size
 same:=h.same
 os:=h.os
 tape:=h.tape
 output:=h.output
theorem Hp.grow[Mode](h:Hp cx ct vl fp G w){w':World}(hsz:w.heap.size<=w'.heap.size)(hw:∀b,b<w.heap.size->w'.heap[b]?=w.heap[b]?)
  (hos:w'.os=w.os) (htape:w'.tape=w.tape) (hout:cJ w w'):Hp cx ct vl fp (fun b=>G b\/(w.heap.size<=b/\b<w'.heap.size)) w' where
 ok k:=by
  refine(h.ok k).mono (Q:=fun _=>True) (fun b hb=>⟨⟨by have:=hb.1.1;omega,hb.1.2⟩,fun hg=>hg.elim hb.2.1 (fun hh=>by have:=hb.1.1;omega),hb.2.2⟩) (fun b hb=>hw b hb.1.1) (fun b hb=>hw b (h.lt k b hb).1) (fun _ h=>h) (bn (fun _=>trivial) _) fun v d _ hr=>?_
  refine hr.bW (bn (fun d=>?_) _);cases d<;>try trivial
  case sub k p=>exact fun hp=>⟨hp,(gN (h.ok k) hp.1 fun b hb=>hw b (h.lt k b hb).1).1⟩
  case av k p=>exact fun hp=>⟨hp,(gN (h.ok k) hp fun b hb=>hw b (h.lt k b hb).1).2⟩
 b7:=h.b7
 cC k b hb hg:=hg.elim (h.cC k b hb) fun hh=>by have:=(h.lt k b hb).1;omega
 emp:=h.emp
 lt k b hb:=⟨by have:=(h.lt k b hb).1;omega,(h.lt k b hb).2⟩
 cY b hb:=hb.elim (fun hg=>⟨by have:=(h.cY b hg).1;omega,(h.cY b hg).2⟩) fun hh=>⟨hh.2,.inr (by have:=h.size;omega)⟩
 size:=Nat.le_trans h.size hsz
 same b hb hF:=by rw[hw b (by have:=h.size;omega)];exact h.same b hb hF
 os:=hos.trans h.os
 tape:=htape.trans h.tape
 output:=hout.trans h.output
theorem Hp.release[Mode](h:Hp cx ct vl fp G w){G':Nat->Prop}(hG:∀b,G' b->G b):Hp cx ct vl fp G' w where
 ok k:=(h.ok k).mono (Q:=fun _=>True) (fun b hb=>⟨hb.1,fun hg=>hb.2.1 (hG b hg),hb.2.2⟩) (fun _ _=>rfl) (fun _ _=>rfl) (fun _ h=>h) (bn (fun _=>trivial) _) fun _ _ _ hr=>hr
 b7:=h.b7
 cC k b hb hg:=h.cC k b hb (hG b hg)
 emp:=h.emp
 lt:=h.lt
 cY b hb:=h.cY b (hG b hb)
 size:=h.size
 same:=h.same
 os:=h.os
 tape:=h.tape
 output:=h.output
theorem o8{c:D}{p:Path}(h:c.aZ p):c.isObj=true:=by cases c<;>first | rfl | exact h.elim
theorem Hp.put[Mode](h:Hp cx ct vl fp G w){k:Nat}(hk:(ct k).isObj=false){v:Value}{c:D}{F G':Nat->Prop}(hc:aI w (aq cx fp G w) (af w ct vl) v F c)
  (hF:∀b,F b->G b) (hG:∀b,G' b->G b) (hFG:∀b,F b->¬G' b) (hemp:c.isObj=false->∀b,¬F b):Hp cx (aA ct k c) (aA vl k v) (aA fp k F) G' w:=by
 have aM:∀b,aq cx fp G w b->aq cx (aA fp k F) G' w b:=by
  rintro b ⟨h1,h2,h3⟩;refine⟨h1,fun hg=>h2 (hG b hg),fun j hj=>?_⟩;by_cases hjk:j=k
  ·subst hjk;rw[ba] at hj;exact h2 (hF b hj)
  ·rw[aG _ _ hjk] at hj;exact h3 j hj
 have hkeep:∀d,cX w w ct (aA ct k c) vl (aA vl k v) d:=by
  intro d;cases d<;>try trivial
  case sub j p =>
   intro hp;have hjk:j≠k:=by rintro rfl;rw[o8 hp.1] at hk;cases hk
   simp only[aG _ _ hjk];exact⟨hp,trivial⟩
  case av j p =>
   intro hp;have hjk:j≠k:=by rintro rfl;rw[o8 hp] at hk;cases hk
   simp only[aG _ _ hjk];exact⟨hp,trivial⟩
 have mono:∀{v c F},aI w (aq cx fp G w) (af w ct vl) v F c->aI w (aq cx (aA fp k F) G' w) (af w (aA ct k c) (aA vl k v)) v F c->True:=fun _ _=>trivial
 refine⟨fun j=>?_,fun i j hij b hi hj=>?_,fun j b hj hg=>?_,fun j hj b hb=>?_,fun j b hj=>?_,fun b hb=>h.cY b (hG b hb),h.size,h.same,h.os,h.tape,h.output⟩
 ·by_cases hjk:j=k
  ·subst hjk
   simp only[ba];exact hc.mono (Q:=fun _=>True) aM (fun _ _=>rfl) (fun _ _=>rfl) (fun _ h=>h) (bn (fun _=>trivial) _) fun v d _ hr=>hr.bW (bn hkeep _)
  ·simp only[aG _ _ hjk]
   exact(h.ok j).mono (Q:=fun _=>True) aM (fun _ _=>rfl) (fun _ _=>rfl) (fun _ h=>h) (bn (fun _=>trivial) _) fun v d _ hr=>hr.bW (bn hkeep _)
 ·by_cases h1:i=k<;>by_cases h2:j=k
  ·omega
  ·subst h1;rw[ba] at hi;rw[aG _ _ h2] at hj;exact h.cC j b hj (hF b hi)
  ·subst h2;rw[ba] at hj;rw[aG _ _ h1] at hi;exact h.cC i b hi (hF b hj)
  ·rw[aG _ _ h1] at hi;rw[aG _ _ h2] at hj;exact h.b7 i j hij b hi hj
 ·by_cases hjk:j=k
  ·subst hjk;rw[ba] at hj;exact hFG b hj hg
  ·rw[aG _ _ hjk] at hj;exact h.cC j b hj (hG b hg)
 ·by_cases hjk:j=k
  ·subst hjk;rw[ba] at hj hb;exact hemp hj b hb
  ·rw[aG _ _ hjk] at hj hb;exact h.emp j hj b hb
 ·by_cases hjk:j=k
  ·subst hjk;rw[ba] at hj;exact h.cY b (hF b hj)
  ·rw[aG _ _ hjk] at hj;exact h.lt j b hj
def cA(k:Nat):D->Prop
 | .sub j _=>j≠k
 | .av j _=>j≠k
 | _=>True
theorem Hp.drop[Mode](h:Hp cx ct vl fp G w)(k:Nat)(hno:∀j,(ct j).refs (cA k))(v:Value):Hp cx (aA ct k .dead) (aA vl k v) (aA fp k fun _=>False) (fun b=>G b\/fp k b) w:=by
 have aM:∀b,aq cx fp G w b->aq cx (aA fp k fun _=>False) (fun b=>G b\/fp k b) w b:=by
  rintro b ⟨h1,h2,h3⟩;refine⟨h1,fun hg=>hg.elim h2 (h3 k),fun j hj=>?_⟩;by_cases hjk:j=k
  ·subst hjk;rw[ba] at hj;exact hj
  ·rw[aG _ _ hjk] at hj;exact h3 j hj
 have hkeep:∀d,cA k d->cX w w ct (aA ct k .dead) vl (aA vl k v) d:=by
  intro d hd;cases d<;>try trivial
  all_goals
   rename_i j p;intro hp;simp only[aG _ _ (show j≠k from hd)];exact⟨hp,trivial⟩
 refine⟨fun j=>?_,fun i j hij b hi hj=>?_,fun j b hj hg=>?_,fun j hj b hb=>?_,fun j b hj=>?_,fun b hb=>hb.elim (h.cY b) (h.lt k b),h.size,h.same,h.os,h.tape,h.output⟩
 ·by_cases hjk:j=k
  ·subst hjk
   simp only[ba];exact Pl.dead
  ·simp only[aG _ _ hjk]
   exact(h.ok j).mono (Q:=cA k) aM (fun _ _=>rfl) (fun _ _=>rfl) (fun _ h=>h) (hno j) fun v d hq hr=>hr.bW (dc hkeep hq)
 ·by_cases h1:i=k<;>by_cases h2:j=k
  ·omega
  ·subst h1;rw[ba] at hi;exact hi
  ·subst h2;rw[ba] at hj;exact hj
  ·rw[aG _ _ h1] at hi;rw[aG _ _ h2] at hj;exact h.b7 i j hij b hi hj
 ·by_cases hjk:j=k
  ·subst hjk;rw[ba] at hj;exact hj
  ·rw[aG _ _ hjk] at hj;exact hg.elim (h.cC j b hj) (h.b7 j k hjk b hj)
 ·by_cases hjk:j=k
  ·subst hjk;rw[ba] at hb;exact hb
  ·rw[aG _ _ hjk] at hj hb;exact h.emp j hj b hb
 ·by_cases hjk:j=k
  ·subst hjk;rw[ba] at hj;exact hj.elim
  ·rw[aG _ _ hjk] at hj;exact h.lt j b hj
end
end Go.D3
namespace Go.D3
open Go
def gf(w:World)(A:Nat->Prop)(R:Value->D->Prop)(v:Value)(F:Nat->Prop)(lvl:Bool)(y:D):Prop :=
 match lvl with
 | true=>bV w A R v F y
 | false=>aj w A v y F
def fF:D->Path->D->Prop
 | .o x,p,y=>ei x p y
 | .box _,[_],_=>True
 | .box l,(_,off)::p,y=>ei (l.getD off .dead).un p y
 | _,_,_=>False
theorem D.nu{w:World}{A:Nat->Prop}{v:Value}{x:D}{F:Nat->Prop}(h:aj w A v x F){p:Path}(hp:p≠[]):(D.o x).at p=x.at p:=by
 cases p with
 | nil=>exact absurd rfl hp
 | cons s p =>
  obtain⟨hu,_⟩:=h.un;simp only[D.at,D.aX,hu];rfl
theorem D.oz{w:World}{A:Nat->Prop}{v:Value}{x:D}{F:Nat->Prop}(h:aj w A v x F){p:Path}(hp:p≠[])(y:D):(D.o x).setAt p y=.o (x.setAt p y):=by
 cases p with
 | nil=>exact absurd rfl hp
 | cons s p =>
  obtain⟨hu,hs⟩:=h.un;obtain⟨i,off⟩:=s;simp only[D.setAt,D.aX,hu,hs];rfl
theorem uP{w w':World}{A A':Nat->Prop}{R R':Value->D->Prop}{Q:D->Prop}{l:List D}{b off:Nat}{cs cs':Array Value}{e:TypeId}{Fs:Nat->Nat->Prop}{y:D}{F1' F':Nat->Prop}
  (h3:cs.size=l.length) (h4:∀j c,l[j]?=some c->bV w A R (cs.getD j undef) (Fs j) c) (h6:∀j c,Fs j c->c≠b) (h7:∀i j c,i≠j->Fs i c->¬Fs j c) (ho:off<l.length)
  (hA:∀b,A b->A' b) (hwA:∀b,A b->w'.heap[b]?=w.heap[b]?) (hw:∀c,(∃j,j≠off/\Fs j c)->w'.heap[c]?=w.heap[c]?) (hb:w'.heap[b]?=some (.cells cs' e (0,0))) (hcs:cs'.size=cs.size) (hcs':∀j,j≠off->cs'.getD j undef=cs.getD j undef)
  (hy:bV w' A' R' (cs'.getD off undef) F1' y) (hd:∀c,F1' c->¬(c=b\/∃j,j≠off/\Fs j c)) (h1:∀c,F1' c->F' c) (h2:∀c,(c=b\/∃j,j≠off/\Fs j c)->F' c)
  (hq:∀x∈l,x.refs Q) (hR:∀v d,d.refs Q->R v d->R' v d):qh w' A' R' (.pointer (some ⟨b,0,none⟩)) F' (l.set off y):=by
 refine⟨by rw[List.length_set];omega,b,cs',e,fun j c=>if j=off then F1' c else Fs j c,rfl,hb,by simp[hcs,h3],fun j c hj=>?_,h2 b (.inl rfl),fun j c hj=>?_,fun p q c hpq hp hq'=>?_⟩
 ·by_cases hjo:j=off
  ·subst hjo
   rw[List.getElem?_set_self ho] at hj;injection hj with hj
   subst hj;simpa using hy
  ·rw[List.getElem?_set_ne (Ne.symm hjo)] at hj
   simp only[if_neg hjo,hcs' j hjo];exact(h4 j c hj).mono hA hwA (fun c hc=>hw c ⟨j,hjo,hc⟩) (fun _ h=>h) (hq c (List.mem_of_getElem? hj)) hR
 ·dsimp only at hj
  split at hj
  ·exact⟨fun hcb=>hd c hj (.inl hcb),h1 c hj⟩
  ·rename_i hne;exact⟨h6 j c hj,h2 c (.inr ⟨j,hne,hj⟩)⟩
 ·dsimp only at hp hq'
  split at hp<;>split at hq'
  ·omega
  ·rename_i hq'';exact hd c hp (.inr ⟨q,hq'',hq'⟩)
  ·rename_i hp' _;exact hd c hq' (.inr ⟨p,hp',hp⟩)
  ·exact h7 p q c hpq hp hq'
theorem aI.splitAt{w:World}{A:Nat->Prop}{R:Value->D->Prop}{v:Value}{c:D}{F:Nat->Prop}{p:Path}(h:aI w A R v F c)(hp:c.aZ p)(hne:p≠[]) :
  ∃(u:Value)(F1 F2:Nat->Prop),aP w v c p=some u/\gf w A R u F1 (bp c p) (c.at p)/\(∀b,F1 b->F b)/\(∀b,F2 b->F b)/\(∀b,F1 b->¬F2 b) /\
   (∀(w':World)(A':Nat->Prop)(R':Value->D->Prop)(Q:D->Prop)(y:D)(F1' F':Nat->Prop),(∀b,A b->A' b)->(∀b,A b->w'.heap[b]?=w.heap[b]?)->(∀b,F2 b->w'.heap[b]?=w.heap[b]?)->gf w' A' R' u F1' (bp c p) y->(∀b,F1' b->¬F2 b) ->
     fF c p y->(∀b,F1' b->F' b)->(∀b,F2 b->F' b)->c.refs Q->(∀v d,d.refs Q->R v d->R' v d)->aI w' A' R' v F' (c.setAt p y)) /\
   (∀a,aH w v c p=some a->F2 a.block/\a.spot=none/\w.cell? a=some u/\w.frozen? a=false /\
     ∀(u':Value)(w':World)(A':Nat->Prop)(R':Value->D->Prop)(Q:D->Prop)(y:D)(F1' F':Nat->Prop),(∀b,A b->A' b)->(∀b,A b->w'.heap[b]?=w.heap[b]?)->(∀b,F2 b->b≠a.block->w'.heap[b]?=w.heap[b]?) ->
      w'.heap[a.block]?=(w.setCell a u').heap[a.block]?->gf w' A' R' u' F1' (bp c p) y->(∀b,F1' b->¬F2 b) ->
      fF c p y->(∀b,F1' b->F' b)->(∀b,F2 b->F' b)->c.refs Q->(∀v d,d.refs Q->R v d->R' v d)->aI w' A' R' v F' (c.setAt p y)):=by
 cases c<;>try exact hp.elim
 case row z l=>exact absurd hp hne
 case o x =>
  obtain⟨u,F1,F2,g1,g2,g3,g4,g5,g6,g7⟩:=aj.splitAt p h hp;obtain⟨a1,a2⟩:=ig h w p;have hl:bp (.o x) p=false:=rfl;refine⟨u,F1,F2,a1.trans g1,?_,g3,g4,g5,?_,?_⟩
  ·rw[hl,D.nu h hne];exact g2
  ·intro w' A' R' Q y F1' F' hA hwA hw hy hd hok h1 h2 _ _
   rw[D.oz h hne];exact g6 w' A' y F1' F' hA hwA hw hy hd hok h1 h2
  ·intro a ha
   rw[a2] at ha;obtain⟨j1,j2,j3,j3',j4⟩:=g7 a ha;refine⟨j1,j2,j3,j3',fun u' w' A' R' Q y F1' F' hA hwA hw hwb hy hd hok h1 h2 _ _=>?_⟩;rw[D.oz h hne];exact j4 u' w' A' y F1' F' hA hwA hw hwb hy hd hok h1 h2
 case box l =>
  cases p with
  | nil=>exact absurd rfl hne
  | cons s p =>
   obtain⟨i,off⟩:=s;obtain⟨_,b,cs,e,Fs,h1,h2,h3,h4,h5,h6,h7⟩:=h;obtain⟨rfl,ho,hp⟩:=hp;subst h1;have hsize:off<cs.size:=by omega
   have hcell:cz w (.pointer (some ⟨b,0,none⟩)) (.box l) 0 off=some (cs.getD off undef):=by
    show w.cell? ⟨b,0+off,none⟩=_;rw[Nat.zero_add];exact dU h2 hsize
   have hget:l[off]?=some (l.getD off .dead):=by
    rw[List.getD_eq_getElem?_getD,List.getElem?_eq_getElem ho];rfl
   have hcok:=h4 off _ hget;have hk:D.aX (.box l) 0 off=l.getD off .dead:=rfl
   have hrest:∀c,(c=b\/∃j,j≠off/\Fs j c)->F c:=by
    rintro c (rfl | ⟨j,_,hj⟩)
    ·exact h5
    ·exact(h6 j c hj).2
   have hdis0:∀c,Fs off c->¬(c=b\/∃j,j≠off/\Fs j c):=by
    rintro c hc (rfl | ⟨j,hne,hj⟩)
    ·exact(h6 _ _ hc).1 rfl
    ·exact h7 _ _ c (Ne.symm hne) hc hj
   cases p with
   | nil =>
    refine⟨cs.getD off undef,Fs off,(fun c=>c=b\/∃j,j≠off/\Fs j c),?_,hcok,fun c hc=>(h6 _ c hc).2,hrest,hdis0,?_,?_⟩
    ·simp only[aP,hcell,Option.bind_some]
    ·intro w' A' R' Q y F1' F' hA hwA hw hy hd _ g1 g2 hq hR
     exact uP h3 h4 (fun j c hj=>(h6 j c hj).1) h7 ho hA hwA (fun c hc=>hw c (.inr hc)) ((hw b (.inl rfl)).trans h2) rfl (fun _ _=>rfl) hy hd g1 g2 (bt.1 hq) hR
    ·intro a ha
     simp only[aH,dK,D.un,dY,Option.some.injEq,Nat.zero_add] at ha;subst ha;refine⟨.inl rfl,rfl,dU h2 hsize,by simp[World.frozen?,h2],fun u' w' A' R' Q y F1' F' hA hwA hw hwb hy hd _ g1 g2 hq hR=>?_⟩;refine uP h3 h4 (fun j c hj=>(h6 j c hj).1) h7 ho hA hwA (fun c ⟨j,hne,hj⟩=>hw c (.inr ⟨j,hne,hj⟩) (h6 j c hj).1) (hwb.trans (wK u' h2)) (by simp) (fun j hj=>getD_set_ne _ (Ne.symm hj)) ?_ hd g1 g2 (bt.1 hq) hR;rw[o6 _ hsize];exact hy
   | cons t p =>
    simp only at hp;split at hp
    ·rename_i y0 hy0
     rw[hy0] at hcok hk hget;simp only[bV] at hcok;obtain⟨u,F1,F2,g1,g2,g3,g4,g5,g6,g7⟩:=aj.splitAt (t::p) hcok hp;obtain⟨a1,a2⟩:=ig hcok w (t::p);have hlv:bp (.box l) ((0,off)::t::p)=false:=rfl
     have hat:(D.box l).at ((0,off)::t::p)=y0.at (t::p):=by
      rw[D.at,hk,D.nu hcok (by simp)]
     have hset:∀y,(D.box l).setAt ((0,off)::t::p) y=.box (l.set off (.o (y0.setAt (t::p) y))):=by
      intro y;rw[D.setAt,hk,D.oz hcok (by simp)];rfl
     have hokk:∀y,fF (.box l) ((0,off)::t::p) y->ei y0 (t::p) y:=by
      intro y hy;simpa only[fF,hy0,D.un] using hy
     refine⟨u,F1,fun c=>F2 c\/(c=b\/∃j,j≠off/\Fs j c),?_,?_,fun c hc=>(h6 _ c (g3 c hc)).2,?_,?_,?_,?_⟩
     ·rw[aP,hcell,Option.bind_some,hk,a1];exact g1
     ·rw[hlv,hat];exact g2
     ·rintro c (hc | hc)
      ·exact(h6 _ c (g4 c hc)).2
      ·exact hrest c hc
     ·rintro c hc (hc' | hc')
      ·exact g5 c hc hc'
      ·exact hdis0 c (g3 c hc) hc'
     ·intro w' A' R' Q y F1' F' hA hwA hw hy hd hok k1 k2 hq hR
      rw[hset];have:=g6 w' A' y F1' (fun c=>F1' c\/F2 c) hA hwA (fun c hc=>hw c (.inl hc)) hy (fun c hc hc'=>hd c hc (.inl hc')) (hokk y hok) (fun _ h=>.inl h) (fun _ h=>.inr h)
      exact uP (y:=.o (y0.setAt (t::p) y)) (F1':=fun c=>F1' c\/F2 c) h3 h4 (fun j c hj=>(h6 j c hj).1) h7 ho hA hwA (fun c hc=>hw c (.inr (.inr hc))) ((hw b (.inr (.inl rfl))).trans h2) rfl (fun _ _=>rfl) this
       (fun c hc hc'=>hc.elim (fun h=>hd c h (.inr hc')) fun h=>hdis0 c (g4 c h) hc') (fun c hc=>hc.elim (k1 c) fun h=>k2 c (.inl h)) (fun c hc=>k2 c (.inr hc)) (bt.1 hq) hR
     ·intro a ha
      have ha':aH w (cs.getD off undef) y0 (t::p)=some a:=by
       have e:aH w (.pointer (some ⟨b,0,none⟩)) (.box l) ((0,off)::t::p)=aH w (cs.getD off undef) (.o y0) (t::p):=by
        rw[aH,hcell,Option.bind_some,hk];simp
       rw[<-a2,<-e];exact ha
      obtain⟨j1,j2,j3,j3',j4⟩:=g7 a ha';refine⟨.inl j1,j2,j3,j3',fun u' w' A' R' Q y F1' F' hA hwA hw hwb hy hd hok k1 k2 hq hR=>?_⟩;rw[hset];have hab:a.block≠b:=(h6 _ _ (g4 _ j1)).1;have:=j4 u' w' A' y F1' (fun c=>F1' c\/F2 c) hA hwA (fun c hc hne=>hw c (.inl hc) hne) hwb hy (fun c hc hc'=>hd c hc (.inl hc')) (hokk y hok) (fun _ h=>.inl h) (fun _ h=>.inr h)
      exact uP (y:=.o (y0.setAt (t::p) y)) (F1':=fun c=>F1' c\/F2 c) h3 h4 (fun j c hj=>(h6 j c hj).1) h7 ho hA hwA
       (fun c ⟨j,hne,hj⟩=>hw c (.inr (.inr ⟨j,hne,hj⟩)) (by rintro rfl;exact h7 _ _ _ (Ne.symm hne) (g4 _ j1) hj)) ((hw b (.inr (.inl rfl)) (Ne.symm hab)).trans h2) rfl (fun _ _=>rfl) this
       (fun c hc hc'=>hc.elim (fun h=>hd c h (.inr hc')) fun h=>hdis0 c (g4 c h) hc') (fun c hc=>hc.elim (k1 c) fun h=>k2 c (.inl h)) (fun c hc=>k2 c (.inr hc)) (bt.1 hq) hR
    ·exact hp.elim
section
variable{cx:Ctx}{ct:Nat->D}{vl:Nat->Value}{fp:Nat->Nat->Prop}{G:Nat->Prop}{w:World}
theorem Hp.change[Mode](h:Hp cx ct vl fp G w){k:Nat}{c':D}{F' G':Nat->Prop}{w':World}(Q:D->Prop)(hobj:c'.isObj=true)
  (hc:aI w' (aq cx fp G w) (af w ct vl) (vl k) F' c') (hrefs:∀j,j≠k->(ct j).refs Q) (hrefs':c'.refs Q)
  (hF:∀b,F' b->fp k b\/G b) (hG:∀b,G' b->fp k b\/G b) (hFG:∀b,F' b->¬G' b)
  (hsz:w'.heap.size=w.heap.size) (hw:∀b,¬fp k b->w'.heap[b]?=w.heap[b]?) (hos:w'.os=w.os) (htape:w'.tape=w.tape) (hout:cJ w w')
  (hsub:∀p,Q (.sub k p)->(ct k).eA p->c'.eA p/\aP w' (vl k) c' p=aP w (vl k) (ct k) p)
  (hadr:∀p,Q (.av k p)->(ct k).aZ p->c'.aZ p/\aH w' (vl k) c' p=aH w (vl k) (ct k) p) :
  Hp cx (aA ct k c') vl (aA fp k F') G' w'/\∀d,Q d->cX w w' ct (aA ct k c') vl vl d:=by
 have aM:∀b,aq cx fp G w b->aq cx (aA fp k F') G' w' b:=by
  rintro b ⟨h1,h2,h3⟩;refine⟨⟨by have:=h1.1;omega,h1.2⟩,fun hg=>(hG b hg).elim (h3 k) h2,fun j hj=>?_⟩;by_cases hjk:j=k
  ·subst hjk;rw[ba] at hj;exact(hF b hj).elim (h3 _) h2
  ·rw[aG _ _ hjk] at hj;exact h3 j hj
 have hkeep:∀d,Q d->cX w w' ct (aA ct k c') vl vl d:=by
  intro d hd;cases d<;>try trivial
  case sub j p =>
   intro(hp:(ct j).eA p);by_cases hjk:j=k
   ·subst hjk
    simp only[ba];exact hsub p hd hp
   ·simp only[aG _ _ hjk]
    exact⟨hp,(gN (h.ok j) hp.1 fun b hb=>hw b (h.b7 j k hjk b hb)).1⟩
  case av j p =>
   intro hp;by_cases hjk:j=k
   ·subst hjk
    simp only[ba];exact hadr p hd hp
   ·simp only[aG _ _ hjk]
    exact⟨hp,(gN (h.ok j) hp fun b hb=>hw b (h.b7 j k hjk b hb)).2⟩
 refine⟨⟨fun j=>?_,fun i j hij b hi hj=>?_,fun j b hj hg=>?_,fun j hj b hb=>?_,fun j b hj=>?_,fun b hb=>?_,by rw[hsz];exact h.size,fun b hb hb0=>?_,hos.trans h.os,htape.trans h.tape,hout.trans h.output⟩,hkeep⟩
 ·by_cases hjk:j=k
  ·subst hjk
   simp only[ba];exact hc.mono (Q:=Q) aM (fun _ _=>rfl) (fun _ _=>rfl) (fun _ h=>h) hrefs' fun v d hq hr=>hr.bW (dc hkeep hq)
  ·simp only[aG _ _ hjk]
   exact(h.ok j).mono (Q:=Q) aM (fun b hb=>hw b (hb.2.2 k)) (fun b hb=>hw b (h.b7 j k hjk b hb)) (fun _ h=>h) (hrefs j hjk) fun v d hq hr=>hr.bW (dc hkeep hq)
 ·by_cases h1:i=k<;>by_cases h2:j=k
  ·omega
  ·subst h1;rw[ba] at hi;rw[aG _ _ h2] at hj;exact(hF b hi).elim (h.b7 j i (Ne.symm hij) b hj) (h.cC j b hj)
  ·subst h2;rw[ba] at hj;rw[aG _ _ h1] at hi;exact(hF b hj).elim (h.b7 i j hij b hi) (h.cC i b hi)
  ·rw[aG _ _ h1] at hi;rw[aG _ _ h2] at hj;exact h.b7 i j hij b hi hj
 ·by_cases hjk:j=k
  ·subst hjk;rw[ba] at hj;exact hFG b hj hg
  ·rw[aG _ _ hjk] at hj;exact(hG b hg).elim (h.b7 j k hjk b hj) (h.cC j b hj)
 ·by_cases hjk:j=k
  ·subst hjk;rw[ba] at hj;rw[hobj] at hj;cases hj
  ·rw[aG _ _ hjk] at hj hb;exact h.emp j hj b hb
 ·rw[hsz]
  by_cases hjk:j=k
  ·subst hjk;rw[ba] at hj;exact(hF b hj).elim (h.lt _ b) (h.cY b)
  ·rw[aG _ _ hjk] at hj;exact h.lt j b hj
 ·rw[hsz];exact(hG b hb).elim (h.lt k b) (h.cY b)
 ·by_cases hk:fp k b
  ·have:=(h.lt k b hk).2
   rcases this with h1 | h1
   ·exact absurd h1 hb0
   ·omega
  ·rw[hw b hk];exact h.same b hb hb0
theorem PV{x:D}{i off:Nat}{y:D}{i' off':Nat}:(x.dx i off y).fg i' off'↔x.fg i' off':=by
 cases x<;>simp[D.dx,D.fg]
theorem QF{v:Value}{x:D}{i off:Nat}{y:D}{i' off':Nat}:dY v (x.dx i off y) i' off'=dY v x i' off':=by
 cases x<;>rfl
theorem Bc{c:D}{p:Path}(hp:c.aZ p)(hne:p≠[])(y:D):(c.setAt p y).isObj=true:=by
 cases p with
 | nil=>exact absurd rfl hne
 | cons t p =>
  obtain⟨i,off⟩:=t;cases c<;>first | rfl | exact hp.elim
theorem tD{Q:D->Prop}{w:World}{A:Nat->Prop}{R:Value->D->Prop}{v:Value}{c:D}{F:Nat->Prop}(h:aI w A R v F c){p:Path}(hp:c.aZ p)(hne:p≠[]){y:D}(hc:c.refs Q)(hy:bp c p=true->y.refs Q):(c.setAt p y).refs Q:=by
 cases c<;>try exact hp.elim
 case row z l=>exact absurd hp hne
 case o x=>rw[D.oz h hne];trivial
 case box l =>
  cases p with
  | nil=>exact absurd rfl hne
  | cons t p =>
   obtain⟨i,off⟩:=t;have e:(D.box l).setAt ((i,off)::p) y=.box (l.set off (((D.box l).aX i off).setAt p y)):=rfl;rw[e];refine bt.2 fun x hx=>?_
   rcases List.mem_or_eq_of_mem_set hx with h1 | h1
   ·exact bt.1 hc x h1
   ·subst h1
    cases p with
    | nil=>exact hy rfl
    | cons s p =>
     obtain⟨_,ho,hp⟩:=hp;simp only at hp;split at hp
     ·rename_i y0 hy0
      have:(D.box l).aX i off=.o y0:=hy0;rw[this];obtain⟨i',off'⟩:=s;trivial
     ·exact hp.elim
def D.bm(c:D)(p:Path):D:=(c.at p).un
theorem yY{c:D}(h:c.iw=true):∃y,c=.o y:=by cases c<;>first | exact⟨_,rfl⟩ | cases h
end
end Go.D3
namespace Go.D3
open Go
def apart:Path->Path->Bool
 | [],_=>false
 | _,[]=>false
 | s::p,t::q=>if s=t then apart p q else true
section
variable{w:World}{A:Nat->Prop}{v:Value}{x:D}{F:Nat->Prop}
theorem GQ(hz:∀z l,(x=.slice z l\/x=.row z l)->∀e∈l,e.cells.length=z.cells.length){i off:Nat}{y:D}(hk:x.fg i off)(hy:x.iz i y):(x.dx i off y).dZ i off=y:=by
 have key:∀(z:D)(l:List D),(∀e∈l,e.cells.length=z.cells.length)->i<l.length->off<z.cells.length->kI (l.getD i z) y->((l.set i (dQ (l.getD i z) off y)).getD i z).cells.getD off .dead=y:=by
  intro z l hz' h1 h2 hy;have hLi:l.getD i z=l[i]:=by rw[List.getD_eq_getElem?_getD,List.getElem?_eq_getElem h1];rfl
  have hl:=hz' l[i] (List.getElem_mem h1);rw[<-hLi] at hl;have e0:(l.set i (dQ (l.getD i z) off y)).getD i z=dQ (l.getD i z) off y:=by rw[List.getD_eq_getElem?_getD,List.getElem?_set_self h1,Option.getD_some]
  rw[e0];generalize l.getD i z=e at hl hy;rw[wL hy (by omega),List.getD_eq_getElem?_getD,List.getElem?_set_self (by omega),Option.getD_some]
 have key2:∀(l:List D),off<l.length->(l.set off y).getD off .dead=y:=by
  intro l h;rw[List.getD_eq_getElem?_getD,List.getElem?_set_self h,Option.getD_some]
 cases x<;>try exact hk.elim
 case slice z l=>exact key z l (hz z l (.inl rfl)) hk.1 hk.2 hy
 case row z l=>exact key z l (hz z l (.inr rfl)) hk.1 hk.2 hy
 all_goals exact key2 _ hk.2
theorem GR(hz:∀z l,(x=.slice z l\/x=.row z l)->∀e∈l,e.cells.length=z.cells.length){i off i' off':Nat}{y:D}(hk:x.fg i off)(hk':x.fg i' off')(hne:(i,off)≠(i',off'))(hy:x.iz i y) :
  (x.dx i off y).dZ i' off'=x.dZ i' off':=by
 have key:∀(z:D)(l:List D),(∀e∈l,e.cells.length=z.cells.length)->i<l.length->off<z.cells.length->kI (l.getD i z) y->((l.set i (dQ (l.getD i z) off y)).getD i' z).cells.getD off' .dead=(l.getD i' z).cells.getD off' .dead:=by
  intro z l hz' h1 h2 hy;by_cases hii:i=i'
  ·subst hii
   have hoo:off≠off':=fun h=>hne (by rw[h])
   have hLi:l.getD i z=l[i]:=by rw[List.getD_eq_getElem?_getD,List.getElem?_eq_getElem h1];rfl
   have hl:=hz' l[i] (List.getElem_mem h1);rw[<-hLi] at hl;have e0:(l.set i (dQ (l.getD i z) off y)).getD i z=dQ (l.getD i z) off y:=by rw[List.getD_eq_getElem?_getD,List.getElem?_set_self h1,Option.getD_some]
   rw[e0];generalize l.getD i z=e at hl hy;rw[wL hy (by omega),List.getD_eq_getElem?_getD,List.getElem?_set_ne hoo,<-List.getD_eq_getElem?_getD]
  ·rw[List.getD_eq_getElem?_getD (l:=l.set i _),List.getElem?_set_ne hii,<-List.getD_eq_getElem?_getD]
 have key2:∀(l:List D),i=0->i'=0->(l.set off y).getD off' .dead=l.getD off' .dead:=by
  intro l h h';have hoo:off≠off':=fun e=>hne (by rw[h,h',e])
  rw[List.getD_eq_getElem?_getD,List.getElem?_set_ne hoo,<-List.getD_eq_getElem?_getD]
 cases x<;>try exact hk.elim
 case slice z l=>exact key z l (hz z l (.inl rfl)) hk.1 hk.2 hy
 case row z l=>exact key z l (hz z l (.inr rfl)) hk.1 hk.2 hy
 all_goals exact key2 _ hk.1 hk'.1
theorem QH{i off:Nat}{y:D}{i' off':Nat}(w':World):mj w' v (x.dx i off y) i' off'=mj w' v x i' off':=by
 cases x<;>rfl
theorem Mn(hu:x.un=x)(i off:Nat)(y:D):(x.dx i off y).un=x.dx i off y:=by
 cases x<;>first | rfl | exact hu
theorem GS(h:aj w A v x F){i off:Nat}(y:D)(i' off':Nat):((x.eG i off y).lu i' off'↔x.lu i' off')/\(∀w' v',cz w' v' (x.eG i off y) i' off'=cz w' v' x i' off')/\(∀v',dK v' (x.eG i off y) i' off'=dK v' x i' off') /\
  (x.eG i off y).aX i' off'=(x.dx i off y).dZ i' off':=by
 obtain⟨hu,hs⟩:=h.un;have hu':=Mn hu i off y;unfold D.lu cz dK D.aX;rw[hs,hu',hu];exact⟨PV,fun w' v'=>QH w',fun v'=>QF,rfl⟩
theorem xB{y:D}:∀(p q:Path){v:Value}{x:D}{F:Nat->Prop},aj w A v x F->x.has p->x.has q->apart p q=true->ei x p y ->
  (x.setAt p y).has q/\(x.setAt p y).at q=x.at q/\∀(w':World)(v':Value),aP w' v' (x.setAt p y) q=aP w' v' x q/\aH w' v' (x.setAt p y) q=aH w' v' x q
 | [],q,_,_,_,_,_,_,ha,_=>by simp[apart] at ha
 | _::_,[],_,_,_,_,_,_,ha,_=>by simp[apart] at ha
 | (i,off)::p,(i',off')::q,v,x,F,h,hp,hq,ha,hok=>by
  obtain⟨e1,e2,e3,e4⟩:=lz h i off;obtain⟨u,F1,F2,g1,g2,_⟩:=h.split (e2.1 hp.1);rw[<-e1] at g2
  have hok':x.iz i ((x.aX i off).setAt p y)/\(p≠[]->ei (x.aX i off) p y):=by
   cases p with
   | nil=>simp only[ei,h.un.1] at hok;exact⟨hok,fun h=>absurd rfl h⟩
   | cons s p =>
    refine⟨zF (e2.1 hp.1) h.oA ?_,fun _=>hok⟩;rw[Bb (by simp) y g2.un.1,e1]
  obtain⟨k1,k2,k3,k4⟩:=GS h (i:=i) (off:=off) ((x.aX i off).setAt p y) i' off';have e1':=(lz h i' off').1;have e2':=(lz h i' off').2.1;simp only[D.setAt];by_cases aM:(i,off)=(i',off')
  ·have hpq:apart p q=true:=by simpa[apart,aM] using ha
   cases aM;have hpne:p≠[]:=by rintro rfl;simp[apart] at hpq
   obtain⟨j1,j2,j3⟩:=xB p q g2 hp.2 hq.2 hpq (hok'.2 hpne);have hkid:(x.eG i off ((x.aX i off).setAt p y)).aX i off=(x.aX i off).setAt p y:=by rw[k4];exact GQ h.oA (e2.1 hp.1) hok'.1
   refine⟨⟨k1.2 hq.1,by rw[hkid];exact j1⟩,by simp only[D.at];rw[hkid];exact j2,fun w' v'=>⟨?_,?_⟩⟩
   ·simp only[aP]
    rw[k2,hkid];congr 1;funext u';exact(j3 w' u').1
   ·cases q with
    | nil=>simp only[aH];exact k3 v'
    | cons t q =>
     simp only[aH];rw[k2,hkid];congr 1;funext u';exact(j3 w' u').2
  ·have hkid:(x.eG i off ((x.aX i off).setAt p y)).aX i' off'=x.aX i' off':=by rw[k4,e1'];exact GR h.oA (e2.1 hp.1) (e2'.1 hq.1) aM hok'.1
   refine⟨⟨k1.2 hq.1,by rw[hkid];exact hq.2⟩,by simp only[D.at];rw[hkid],fun w' v'=>⟨?_,?_⟩⟩
   ·simp only[aP];rw[k2,hkid]
   ·cases q with
    | nil=>simp only[aH];exact k3 v'
    | cons t q=>simp only[aH];rw[k2,hkid]
theorem EB{x:D}(hu:x.un=x){p:Path}(hp:p≠[]):(D.o x).at p=x.at p:=by
 cases p with
 | nil=>exact absurd rfl hp
 | cons s p=>simp only[D.at,D.aX,hu];rfl
theorem rS{x:D}(hu:x.un=x)(w':World)(v:Value)(p:Path):aP w' v (.o x) p=aP w' v x p/\aH w' v (.o x) p=aH w' v x p:=by
 cases p with
 | nil=>exact⟨rfl,rfl⟩
 | cons s p =>
  obtain⟨i,off⟩:=s;have e1:cz w' v (.o x) i off=cz w' v x i off:=by unfold cz;rw[hu];rfl
  have e2:D.aX (.o x) i off=x.aX i off:=by unfold D.aX;rw[hu];rfl
  have e3:dK v (.o x) i off=dK v x i off:=by unfold dK;rw[hu];rfl
  refine⟨by simp only[aP,e1,e2],?_⟩;cases p with
  | nil=>simp only[aH,e3]
  | cons t p=>simp only[aH,e1,e2]
theorem tP(h:aj w A v x F){p:Path}(hp:p≠[])(y:D):(x.setAt p y).un=x.setAt p y:=by
 cases p with
 | nil=>exact absurd rfl hp
 | cons s p =>
  obtain⟨hu,hs⟩:=h.un;simp only[D.setAt];rw[hs];exact Mn hu _ _ _
theorem zE:∀(p:Path)(x:D),ei x p .dead
 | [],_=>trivial
 | [(i,off)],x=>by
  simp only[ei];generalize x.un=z;cases z<;>first | trivial | exact .inr rfl
 | (i,off)::s::p,x=>zE (s::p) (x.aX i off)
theorem Tu{c:D}{p:Path}(hp:c.aZ p)(hne:p≠[]):fF c p .dead:=by
 cases c<;>try exact hp.elim
 case o x=>exact zE p x
 case row=>exact absurd hp hne
 case box l =>
  cases p with
  | nil=>exact absurd rfl hne
  | cons s p =>
   cases p with
   | nil=>exact trivial
   | cons t p=>exact zE (t::p) _
theorem uG{R:Value->D->Prop}{c y:D}{p q:Path}(h:aI w A R v F c)(hp:c.aZ p)(hq:c.aZ q)(ha:apart p q=true)(hok:fF c p y) :
  (c.setAt p y).aZ q/\bp (c.setAt p y) q=bp c q/\(c.setAt p y).at q=c.at q/\∀(w':World),aP w' v (c.setAt p y) q=aP w' v c q/\aH w' v (c.setAt p y) q=aH w' v c q:=by
 have hpne:p≠[]:=by rintro rfl;simp[apart] at ha
 have hqne:q≠[]:=by rintro rfl;cases p<;>simp[apart] at ha
 cases c<;>try exact hp.elim
 case row z l=>exact absurd hp hpne
 case o x =>
  obtain⟨h1,h2,h3⟩:=xB p q h hp hq ha hok;rw[D.oz h hpne];refine⟨h1,rfl,?_,fun w'=>?_⟩
  ·rw[EB (tP h hpne y) hqne,D.nu h hqne,h2]
  ·obtain⟨a1,a2⟩:=ig h w' q
   obtain⟨b1,b2⟩:=rS (tP h hpne y) w' v q;rw[a1,a2,b1,b2];exact h3 w' v
 case box l =>
  obtain⟨_,b,cs,e,Fs,h1,h2,h3,h4,h5,h6,h7⟩:=h;cases p with
  | nil=>exact absurd rfl hpne
  | cons s p =>
  cases q with
  | nil=>exact absurd rfl hqne
  | cons t q =>
  obtain⟨i,off⟩:=s;obtain⟨i',off'⟩:=t;obtain⟨rfl,ho,hp⟩:=hp;obtain⟨rfl,ho',hq⟩:=hq;have hset:∀y',(D.box l).eG 0 off y'=.box (l.set off y'):=fun _=>rfl
  have hkid:∀(l:List D) off,(D.box l).aX 0 off=l.getD off .dead:=fun _ _=>rfl
  have hkv:∀w' y',cz w' v (.box (l.set off y')) 0 off'=cz w' v (.box l) 0 off':=fun _ _=>rfl
  have hlv:∀l',bp (.box l') ((0,off')::q)=bp (.box l) ((0,off')::q):=by intro l';cases q<;>rfl
  by_cases hoo:off=off'
  ·subst hoo
   have hpq:apart p q=true:=by simpa[apart] using ha
   cases p with
   | nil=>simp[apart] at hpq
   | cons s' p =>
   cases q with
   | nil=>simp[apart] at hpq
   | cons t' q =>
   simp only at hp hq;split at hp
   ·rename_i y0 hy0
    rw[hy0] at hq
    have hget:l[off]?=some (.o y0):=by
     rw[List.getElem?_eq_getElem ho];rw[List.getD_eq_getElem?_getD,List.getElem?_eq_getElem ho] at hy0;simpa using hy0
    have hown:=h4 off _ hget;simp only[bV] at hown;simp only[fF,hy0,D.un] at hok;obtain⟨j1,j2,j3⟩:=xB (s'::p) (t'::q) hown hp hq hpq hok
    have hs1:(D.box l).setAt ((0,off)::s'::p) y=.box (l.set off (.o (y0.setAt (s'::p) y))):=by
     rw[D.setAt,hset,hkid,hy0,D.oz hown (by simp)]
    have hg1:(l.set off (.o (y0.setAt (s'::p) y))).getD off .dead=.o (y0.setAt (s'::p) y):=by
     rw[List.getD_eq_getElem?_getD,List.getElem?_set_self ho,Option.getD_some]
    have hun:=tP hown (p:=s'::p) (by simp) y;rw[hs1];refine⟨⟨rfl,by simpa using ho,?_⟩,rfl,?_,fun w'=>?_⟩
    ·simp only[hg1];exact j1
    ·simp only[D.at]
     rw[hkid,hkid,hg1,hy0];have:=j2;rw[<-EB hun (by simp),<-D.nu hown (by simp)] at this;exact this
    ·have ev:∀u,aP w' u (.o (y0.setAt (s'::p) y)) (t'::q)=aP w' u (.o y0) (t'::q)/\aH w' u (.o (y0.setAt (s'::p) y)) (t'::q)=aH w' u (.o y0) (t'::q):=by
      intro u;obtain⟨b1,b2⟩:=rS hun w' u (t'::q);obtain⟨a1,a2⟩:=rS hown.un.1 w' u (t'::q);rw[a1,a2,b1,b2];exact j3 w' u
     constructor
     ·rw[aP,aP,hkv,hkid,hkid,hg1,hy0]
      congr 1;funext u;exact(ev u).1
     ·rw[aH,aH,hkv,hkid,hkid,hg1,hy0]
      ·congr 1;funext u;exact(ev u).2
      all_goals simp
   ·exact hp.elim
  ·have hg:∀y',(l.set off y').getD off' .dead=l.getD off' .dead:=by
    intro y';rw[List.getD_eq_getElem?_getD,List.getElem?_set_ne hoo,<-List.getD_eq_getElem?_getD]
   simp only[D.setAt];rw[hset];generalize(D.box l |>.aX 0 off).setAt p y=y';refine⟨⟨rfl,by simpa using ho',?_⟩,hlv _,?_,fun w'=>⟨?_,?_⟩⟩
   ·cases q with
    | nil=>trivial
    | cons t' q=>simp only[hg];exact hq
   ·simp only[D.at];rw[hkid,hkid,hg]
   ·simp only[aP];rw[hkv,hkid,hkid,hg]
   ·cases q with
    | nil=>rfl
    | cons t' q=>simp only[aH];rw[hkv,hkid,hkid,hg]
theorem Bg{y:D}:∀(p q:Path){v:Value}{x:D}{F:Nat->Prop},aj w A v x F->x.has p->x.has q->q.length<=p.length->ei x p y ->
  (x.setAt p y).has q/\∀(w':World)(v':Value),aP w' v' (x.setAt p y) q=aP w' v' x q/\aH w' v' (x.setAt p y) q=aH w' v' x q
 | _,[],_,_,_,_,_,_,_,_=>⟨trivial,fun _ _=>⟨rfl,rfl⟩⟩
 | [],_::_,_,_,_,_,_,_,hl,_=>by simp at hl
 | (i,off)::p,(i',off')::q,v,x,F,h,hp,hq,hl,hok=>by
  obtain⟨e1,e2,e3,e4⟩:=lz h i off;obtain⟨u,F1,F2,g1,g2,_⟩:=h.split (e2.1 hp.1);rw[<-e1] at g2
  have hok':x.iz i ((x.aX i off).setAt p y)/\(p≠[]->ei (x.aX i off) p y):=by
   cases p with
   | nil=>simp only[ei,h.un.1] at hok;exact⟨hok,fun h=>absurd rfl h⟩
   | cons s p =>
    refine⟨zF (e2.1 hp.1) h.oA ?_,fun _=>hok⟩;rw[Bb (by simp) y g2.un.1,e1]
  obtain⟨k1,k2,k3,k4⟩:=GS h (i:=i) (off:=off) ((x.aX i off).setAt p y) i' off';have e1':=(lz h i' off').1;have e2':=(lz h i' off').2.1;have hl':q.length<=p.length:=by simpa using hl
  simp only[D.setAt];by_cases aM:(i,off)=(i',off')
  ·cases aM
   have hkid:(x.eG i off ((x.aX i off).setAt p y)).aX i off=(x.aX i off).setAt p y:=by rw[k4];exact GQ h.oA (e2.1 hp.1) hok'.1
   cases p with
   | nil =>
    have:q=[]:=List.eq_nil_of_length_eq_zero (by simpa using hl');subst this;refine⟨⟨k1.2 hq.1,trivial⟩,fun w' v'=>⟨?_,?_⟩⟩
    ·simp only[aP];rw[k2]
    ·simp only[aH];exact k3 v'
   | cons s p =>
   obtain⟨j1,j3⟩:=Bg (s::p) q g2 hp.2 hq.2 hl' (hok'.2 (by simp));refine⟨⟨k1.2 hq.1,by rw[hkid];exact j1⟩,fun w' v'=>⟨?_,?_⟩⟩
   ·simp only[aP]
    rw[k2,hkid];congr 1;funext u';exact(j3 w' u').1
   ·cases q with
    | nil=>simp only[aH];exact k3 v'
    | cons t q =>
     simp only[aH];rw[k2,hkid];congr 1;funext u';exact(j3 w' u').2
  ·have hkid:(x.eG i off ((x.aX i off).setAt p y)).aX i' off'=x.aX i' off':=by rw[k4,e1'];exact GR h.oA (e2.1 hp.1) (e2'.1 hq.1) aM hok'.1
   refine⟨⟨k1.2 hq.1,by rw[hkid];exact hq.2⟩,fun w' v'=>⟨?_,?_⟩⟩
   ·simp only[aP];rw[k2,hkid]
   ·cases q with
    | nil=>simp only[aH];exact k3 v'
    | cons t q=>simp only[aH];rw[k2,hkid]
theorem qa{R:Value->D->Prop}{c y:D}{p q:Path}(h:aI w A R v F c)(hp:c.aZ p)(hne:p≠[])(hq:c.aZ q)(hl:q.length<=p.length)(hok:fF c p y) :
  (c.setAt p y).aZ q/\(∀(w':World),aP w' v (c.setAt p y) q=aP w' v c q/\aH w' v (c.setAt p y) q=aH w' v c q)/\((q.length<p.length\/(bp c p=true->y.iw=true))->c.eA q->(c.setAt p y).eA q):=by
 cases c<;>try exact hp.elim
 case row z l=>exact absurd hp hne
 case o x =>
  have hun:=tP h hne y;rw[D.oz h hne];have hlo:∀z,bp (.o z) q=false:=fun z=>by cases q<;>rfl
  have key:(x.setAt p y).has q/\∀w',aP w' v (.o (x.setAt p y)) q=aP w' v (.o x) q/\aH w' v (.o (x.setAt p y)) q=aH w' v (.o x) q:=by
   obtain⟨h1,h3⟩:=Bg p q h hp hq hl hok;refine⟨h1,fun w'=>?_⟩;obtain⟨a1,a2⟩:=ig h w' q;obtain⟨b1,b2⟩:=rS hun w' v q;rw[a1,a2,b1,b2];exact h3 w' v
  exact⟨key.1,key.2,fun _ _=>⟨key.1,fun hh=>by rw[hlo] at hh;cases hh⟩⟩
 case box l =>
  obtain⟨_,b,cs,e,Fs,h1,h2,h3,h4,h5,h6,h7⟩:=h;cases p with
  | nil=>exact absurd rfl hne
  | cons s p =>
  obtain⟨i,off⟩:=s;obtain⟨rfl,ho,hp⟩:=hp;have hset:∀y',(D.box l).eG 0 off y'=.box (l.set off y'):=fun _=>rfl
  have hkid:∀(l:List D) off,(D.box l).aX 0 off=l.getD off .dead:=fun _ _=>rfl
  cases q with
  | nil =>
   simp only[D.setAt];rw[hset];exact⟨trivial,fun w'=>⟨rfl,rfl⟩,fun _ _=>⟨trivial,fun hh=>by cases hh⟩⟩
  | cons t q =>
  obtain⟨i',off'⟩:=t;obtain⟨rfl,ho',hq⟩:=hq;have hkv:∀w' y',cz w' v (.box (l.set off y')) 0 off'=cz w' v (.box l) 0 off':=fun _ _=>rfl
  have hlv:∀l',bp (.box l') ((0,off')::q)=bp (.box l) ((0,off')::q):=by intro l';cases q<;>rfl
  by_cases hoo:off=off'
  ·subst hoo
   cases p with
   | nil =>
    have:q=[]:=List.eq_nil_of_length_eq_zero (by simpa using hl);subst this;have hs1:(D.box l).setAt [(0,off)] y=.box (l.set off y):=rfl;rw[hs1];have hC:(D.box (l.set off y)).aZ [(0,off)]:=⟨rfl,by simpa using ho,trivial⟩;refine⟨hC,fun w'=>⟨?_,rfl⟩,fun hy hs=>⟨hC,fun _=>?_⟩⟩
    ·simp only[aP];rw[hkv]
    ·have e1:(D.box (l.set off y)).at [(0,off)]=y:=by
      show(l.set off y).getD off .dead=y;rw[List.getD_eq_getElem?_getD,List.getElem?_set_self ho,Option.getD_some]
     rw[e1];exact hy.resolve_left (by simp) rfl
   | cons s' p =>
   simp only at hp;split at hp
   ·rename_i y0 hy0
    have hget:l[off]?=some (.o y0):=by
     rw[List.getElem?_eq_getElem ho];rw[List.getD_eq_getElem?_getD,List.getElem?_eq_getElem ho] at hy0;simpa using hy0
    have hown:=h4 off _ hget;simp only[bV] at hown;simp only[fF,hy0,D.un] at hok
    have hs1:(D.box l).setAt ((0,off)::s'::p) y=.box (l.set off (.o (y0.setAt (s'::p) y))):=by
     rw[D.setAt,hset,hkid,hy0,D.oz hown (by simp)]
    have hg1:(l.set off (.o (y0.setAt (s'::p) y))).getD off .dead=.o (y0.setAt (s'::p) y):=by
     rw[List.getD_eq_getElem?_getD,List.getElem?_set_self ho,Option.getD_some]
    have hun:=tP hown (p:=s'::p) (by simp) y;rw[hs1];cases q with
    | nil =>
     have hC:(D.box (l.set off (.o (y0.setAt (s'::p) y)))).aZ [(0,off)]:=⟨rfl,by simpa using ho,trivial⟩;refine⟨hC,fun w'=>⟨?_,rfl⟩,fun _ _=>⟨hC,fun _=>?_⟩⟩
     ·simp only[aP];rw[hkv]
     ·have e1:(D.box (l.set off (.o (y0.setAt (s'::p) y)))).at [(0,off)]=.o (y0.setAt (s'::p) y):=hg1
      rw[e1];rfl
    | cons t' q =>
    simp only at hq;rw[hy0] at hq;obtain⟨j1,j3⟩:=Bg (s'::p) (t'::q) hown hp hq (by simpa using hl) hok
    have hC:(D.box (l.set off (.o (y0.setAt (s'::p) y)))).aZ ((0,off)::t'::q):=by
     refine⟨rfl,by simpa using ho,?_⟩;simp only[hg1];exact j1
    refine⟨hC,fun w'=>?_,fun _ _=>⟨hC,fun hh=>by cases hh⟩⟩
    have ev:∀u,aP w' u (.o (y0.setAt (s'::p) y)) (t'::q)=aP w' u (.o y0) (t'::q)/\aH w' u (.o (y0.setAt (s'::p) y)) (t'::q)=aH w' u (.o y0) (t'::q):=by
     intro u;obtain⟨b1,b2⟩:=rS hun w' u (t'::q);obtain⟨a1,a2⟩:=rS hown.un.1 w' u (t'::q);rw[a1,a2,b1,b2];exact j3 w' u
    constructor
    ·rw[aP,aP,hkv,hkid,hkid,hg1,hy0]
     congr 1;funext u;exact(ev u).1
    ·rw[aH,aH,hkv,hkid,hkid,hg1,hy0]
     ·congr 1;funext u;exact(ev u).2
     all_goals simp
   ·exact hp.elim
  ·have hg:∀y',(l.set off y').getD off' .dead=l.getD off' .dead:=by
    intro y';rw[List.getD_eq_getElem?_getD,List.getElem?_set_ne hoo,<-List.getD_eq_getElem?_getD]
   simp only[D.setAt];rw[hset];generalize(D.box l |>.aX 0 off).setAt p y=y'
   have hC:(D.box (l.set off y')).aZ ((0,off')::q):=by
    refine⟨rfl,by simpa using ho',?_⟩;cases q with
    | nil=>trivial
    | cons t' q=>simp only[hg];exact hq
   refine⟨hC,fun w'=>⟨?_,?_⟩,fun _ hs=>⟨hC,fun hh=>?_⟩⟩
   ·simp only[aP];rw[hkv,hkid,hkid,hg]
   ·cases q with
    | nil=>rfl
    | cons t' q=>simp only[aH];rw[hkv,hkid,hkid,hg]
   ·rw[hlv] at hh
    have:=hs.2 hh;simp only[D.at] at this|-
    rw[hkid] at this|-
    rw[hg];exact this
end
end Go.D3
namespace Go.D3
open Go
theorem nM(x:D):∀(p q:Path),x.has (p++q)↔x.has p/\(x.at p).has q:=by
 intro p;induction p generalizing x with
 | nil=>intro q;simp[D.has,D.at]
 | cons s p ih=>intro q;obtain⟨i,off⟩:=s;simp only[List.cons_append,D.has,D.at,ih,and_assoc]
theorem aa3(w:World):∀(p q:Path)(v:Value)(x:D),aP w v x (p++q)=(aP w v x p).bind fun u=>aP w u (x.at p) q:=by
 intro p;induction p with
 | nil=>intro q v x;rfl
 | cons s p ih =>
  intro q v x;obtain⟨i,off⟩:=s;simp only[List.cons_append,aP,D.at,ih];cases cz w v x i off<;>rfl
theorem sd(w:World):∀(p q:Path)(v:Value)(x:D),q≠[]->aH w v x (p++q)=(aP w v x p).bind fun u=>aH w u (x.at p) q:=by
 intro p;induction p with
 | nil=>intro q v x _;rfl
 | cons s p ih =>
  intro q v x hq;obtain⟨i,off⟩:=s;have:p++q≠[]:=by simp[hq]
  have e:aH w v x ((i,off)::(p++q))=(cz w v x i off).bind fun u=>aH w u (x.aX i off) (p++q):=by
   cases h:p++q with
   | nil=>exact absurd h this
   | cons t r=>rfl
  rw[List.cons_append,e];simp only[aP,D.at];cases cz w v x i off with
  | none=>rfl
  | some u=>simp only[Option.bind_some];exact ih q u _ hq
def gT:Path->Path->Bool
 | _,[]=>false
 | [],_::_=>true
 | _::p,_::q=>gT p q
def km:Path->Path->Bool
 | [],_=>true
 | _::_,[]=>false
 | _::p,_::q=>km p q
theorem vo:∀(p q:Path),gT p q=false->q.length<=p.length
 | _,[],_=>by simp
 | [],_::_,h=>by simp[gT] at h
 | _::p,_::q,h=>by simpa using vo p q (by simpa[gT] using h)
theorem Gj:∀(p q:Path),km p q=false->q.length<p.length
 | [],_,h=>by simp[km] at h
 | _::_,[],_=>by simp
 | _::p,_::q,h=>by simpa using Gj p q (by simpa[km] using h)
def bF(k:Nat)(p:Path):D->Bool
 | .sub j q=>j == k&&gT p q
 | .av j q=>j == k&&gT p q
 | _=>false
def bq(k:Nat)(p:Path):D->Bool
 | .sub j q=>j == k&&km p q
 | .av j q=>j == k&&gT p q
 | _=>false
theorem Au{k:Nat}{p q:Path}(h:bF k p (.sub k q)=false):q.length<=p.length:=vo p q (by simpa[bF] using h)
theorem As{k:Nat}{p q:Path}(h:bF k p (.av k q)=false):q.length<=p.length:=vo p q (by simpa[bF] using h)
theorem wy{k:Nat}{p q:Path}(h:bq k p (.sub k q)=false):q.length<p.length:=Gj p q (by simpa[bq] using h)
theorem Av{k:Nat}{p q:Path}(h:bq k p (.av k q)=false):q.length<=p.length:=vo p q (by simpa[bq] using h)
theorem Gr:∀{p p':Path},p.length=p'.length->∀q,gT p q=gT p' q
 | [],[],_,q=>rfl
 | _::p,_::p',h,[]=>rfl
 | _::p,_::p',h,_::q=>by simpa[gT] using Gr (by simpa using h) q
theorem Gi:∀{p p':Path},p.length=p'.length->∀q,km p q=km p' q
 | [],[],_,q=>rfl
 | _::p,_::p',h,[]=>rfl
 | _::p,_::p',h,_::q=>by simpa[km] using Gi (by simpa using h) q
theorem I7{p p':Path}(h:p.length=p'.length)(k:Nat):bq k p=bq k p':=by
 funext d;cases d<;>simp only[bq,Gr h,Gi h]
def eV(c:D)(p:Path):D:=if bp c p=true then .o .dead else .dead
theorem s6{c:D}{p:Path}(hp:c.aZ p)(hne:p≠[]):fF c p (eV c p):=by
 unfold eV;split
 ·rename_i hl
  cases c<;>try exact hp.elim
  case o x=>cases p<;>cases hl
  case row=>exact absurd hp hne
  case box l =>
   cases p with
   | nil=>exact absurd rfl hne
   | cons s p=>cases p with
    | nil=>trivial
    | cons t p=>cases hl
 ·exact Tu hp hne
theorem Gu{c:D}{p r:Path}(h:c.aZ (p++r)):c.aZ p:=by
 cases c<;>try exact h.elim
 case o x=>exact((nM x p r).1 h).1
 case row z l=>exact List.append_eq_nil_iff.1 h |>.1
 case box l =>
  cases p with
  | nil=>trivial
  | cons s p =>
   obtain⟨i,off⟩:=s;cases p with
   | nil=>exact⟨h.1,h.2.1,trivial⟩
   | cons t p =>
    have h:(D.box l).aZ ((i,off)::t::(p++r)):=h;obtain⟨h1,h2,h3⟩:=h;refine⟨h1,h2,?_⟩;simp only at h3|-
    split at h3
    ·rename_i y hy
     exact((nM y (t::p) r).1 h3).1
    ·exact h3.elim
section
variable{w:World}{A:Nat->Prop}{R:Value->D->Prop}{v:Value}{c:D}{F:Nat->Prop}
theorem Wa(h:aI w A R v F c){p:Path}{s:Nat×Nat}(hp:c.aZ (p++[s]))(hne:p≠[]):(bp c p=true->(c.at p).iw=true)/\(c.bm p).lu s.1 s.2:=by
 cases c<;>try exact hp.elim
 case row z l=>exact absurd (List.append_eq_nil_iff.1 hp).1 hne
 case o x =>
  refine⟨fun hl=>(by cases p<;>cases hl),?_⟩;obtain⟨h1,h2⟩:=(nM x p [s]).1 hp;obtain⟨_,_,_,g1,g2,_⟩:=aj.splitAt p h h1;unfold D.bm;rw[D.nu h hne,g2.un.1];exact h2.1
 case box l =>
  obtain⟨_,b,cs,e,Fs,h1,h2,h3,h4,h5,h6,h7⟩:=h;cases p with
  | nil=>exact absurd rfl hne
  | cons t p =>
   obtain⟨i,off⟩:=t;obtain⟨rfl,ho,hp⟩:=hp;have hkid:∀off,(D.box l).aX 0 off=l.getD off .dead:=fun _=>rfl
   have key:∀q:Path,(match p++[s] with | []=>True | s::p=>match l.getD off .dead with | .o y=>y.has (s::p) | _=>False)->∃y,l.getD off .dead=.o y/\y.has (p++[s]):=by
    intro _ hp;cases hps:p++[s] with
    | nil=>simp at hps
    | cons a r =>
     rw[hps] at hp;simp only at hp;split at hp
     ·rename_i y hy;exact⟨y,hy,hp⟩
     ·exact hp.elim
   obtain⟨y,hy,hys⟩:=key [] hp;obtain⟨k1,k2⟩:=(nM y p [s]).1 hys
   have hget:l[off]?=some (.o y):=by
    rw[List.getD_eq_getElem?_getD,List.getElem?_eq_getElem ho] at hy;rw[List.getElem?_eq_getElem ho];simpa using hy
   have hown:=h4 off _ hget;simp only[bV] at hown;cases p with
   | nil =>
    have e:(D.box l).at [(0,off)]=.o y:=hy;refine⟨fun _=>by rw[e];rfl,?_⟩;unfold D.bm;rw[e];exact k2.1
   | cons t p =>
    refine⟨fun hl=>(by cases hl),?_⟩;obtain⟨_,_,_,g1,g2,_⟩:=aj.splitAt (t::p) hown k1
    have e:(D.box l).at ((0,off)::t::p)=y.at (t::p):=by
     rw[D.at,hkid,hy,D.nu hown (by simp)]
    unfold D.bm;rw[e,g2.un.1];exact k2.1
theorem IE{u:Value}{F1:Nat->Prop}{p:Path}(g2:gf w A R u F1 (bp c p) (c.at p))(hS:bp c p=true->(c.at p).iw=true):aj w A u (c.bm p) F1:=by
 unfold gf at g2;split at g2
 ·rename_i hl
  obtain⟨y,hy⟩:=yY (hS hl);rw[hy] at g2;simp only[D.bm,hy,D.un];exact g2
 ·simp only[D.bm]
  rw[g2.un.1];exact g2
theorem IC{u:Value}{p:Path}{w':World}{A':Nat->Prop}{R':Value->D->Prop}:gf w' A' R' u (fun _=>False) (bp c p) (eV c p):=by
 unfold gf eV;cases bp c p with
 | true=>exact aj.dead
 | false=>exact aj.dead
theorem Hy(h:aI w A R v F c){p:Path}(hp:c.aZ p)(hne:p≠[]){a:Addr}(ha:aH w v c p=some a){w':World}(hw:∀b,F b->b≠a.block->w'.heap[b]?=w.heap[b]?){q:Path}(hq:c.aZ q) :
  (q.length<p.length->aP w' v c q=aP w v c q)/\(q.length<=p.length->aH w' v c q=aH w v c q):=by
 obtain⟨p0,s,rfl⟩:∃p0 s,p=p0++[s]:=⟨p.dropLast,p.getLast hne,(List.dropLast_concat_getLast hne).symm⟩
 have short:∀q:Path,c.aZ q->q.length<=p0.length->aP w' v c q=aP w v c q:=by
  intro q hq hl;by_cases h0:p0=[]
  ·subst h0
   have:q=[]:=List.eq_nil_of_length_eq_zero (by simpa using hl);subst this;rfl
  ·have hp0:=Gu hp
   obtain⟨hS,hk⟩:=Wa h hp h0;obtain⟨u,F1,F2,g1,g2,g3,g4,g5,g6,_⟩:=h.splitAt hp0 h0;have hown:=IE g2 hS
   have hab:F1 a.block:=by
    rw[sd w p0 [s] v c (by simp),g1,Option.bind_some] at ha;obtain⟨i,off⟩:=s
    have ha':dK u (c.bm p0) i off=some a:=by
     have:dK u (c.at p0) i off=dK u (c.bm p0) i off:=by
      unfold D.bm dK;by_cases hh:∃z,c.at p0=.o z
      ·obtain⟨z,hz⟩:=hh
       rw[hz];have:(D.o z).un=z:=rfl;rw[this];unfold D.bm at hown;rw[hz] at hown;have hzz:z.un=z:=hown.un.1;rw[hzz]
      ·have:(c.at p0).un=c.at p0:=by
        generalize c.at p0=z at hh|-
        cases z<;>first | rfl | exact absurd ⟨_,rfl⟩ hh
       rw[this,this]
     rw[<-this];exact ha
    obtain⟨e1,e2,e3,e4⟩:=lz hown i off;obtain⟨u',G1,G2,k1,k2,k3,k4,k5,k6,k7⟩:=hown.split (e2.1 hk);rw[e3] at ha';exact k4 _ (k7 a ha').1
   have hc0:aI w A R v F2 (c.setAt p0 (eV c p0)):=g6 w A R (fun _=>True) _ (fun _=>False) F2 (fun _ h=>h) (fun _ _=>rfl) (fun _ _=>rfl) IC (fun _ h=>h.elim) (s6 hp0 h0) (fun _ h=>h.elim) (fun _ h=>h) (bn (fun _=>trivial) _) (fun _ _ _ h=>h);obtain⟨j1,j2,_⟩:=qa h hp0 h0 hq hl (s6 hp0 h0);have:=(gN (w':=w') hc0 j1 fun b hb=>hw b (g4 b hb) (by rintro rfl;exact g5 _ hab hb)).1;rw[(j2 w').1,(j2 w).1] at this;exact this
 refine⟨fun hl=>short q hq (by simp at hl;omega),fun hl=>?_⟩;cases hq0:q with
 | nil=>rfl
 | cons t r =>
  have hqne:q≠[]:=by rw[hq0];simp
  rw[<-hq0];obtain⟨q0,t',hq'⟩:∃q0 t',q=q0++[t']:=⟨q.dropLast,q.getLast hqne,(List.dropLast_concat_getLast hqne).symm⟩;rw[hq'] at hq hl|-
  rw[sd w' q0 [t'] v c (by simp),sd w q0 [t'] v c (by simp),short q0 (Gu hq) (by simp at hl;omega)];rfl
end
section
variable{cx:Ctx}{ct:Nat->D}{vl:Nat->Value}{fp:Nat->Nat->Prop}{G:Nat->Prop}{w:World}
theorem Hp.take[Mode](h:Hp cx ct vl fp G w){k:Nat}{p:Path}(hp':(ct k).eA p)(hne:p≠[])(hrefs:∀j,(ct j).refs fun d=>bF k p d=false) :
  ∃(u:Value)(F1 F2:Nat->Prop),aP w (vl k) (ct k) p=some u/\aj w (aq cx fp G w) u ((ct k).bm p) F1/\(∀b,F1 b->fp k b) /\
   Hp cx (aA ct k ((ct k).setAt p (eV (ct k) p))) vl (aA fp k F2) (fun b=>G b\/F1 b) w/\(∀b,F2 b->fp k b)/\∀d,bF k p d=false->cX w w ct (aA ct k ((ct k).setAt p (eV (ct k) p))) vl vl d:=by
 obtain⟨hp,hok⟩:=hp';obtain⟨u,F1,F2,g1,g2,g3,g4,g5,g6,g7⟩:=(h.ok k).splitAt hp hne;have hown:=IE g2 hok;have hkk:=s6 hp hne
 obtain⟨r1,r2⟩:=h.change (fun d=>bF k p d=false) (Bc hp hne _) (g6 w (aq cx fp G w) _ (fun _=>True) (eV (ct k) p) (fun _=>False) F2 (fun _ h=>h) (fun _ _=>rfl) (fun _ _=>rfl) IC (fun _ h=>h.elim) hkk (fun _ h=>h.elim) (fun _ h=>h) (bn (fun _=>trivial) _) (fun _ _ _ h=>h))
  (fun j _=>hrefs j) (tD (h.ok k) hp hne (hrefs k) fun hl=>by unfold eV;rw[if_pos hl];trivial) (fun b hb=>.inl (g4 b hb)) (G':=fun b=>G b\/F1 b) (fun b hb=>hb.elim .inr fun h=>.inl (g3 b h)) (fun b hb hg=>hg.elim (h.cC k b (g4 b hb)) fun h=>g5 b h hb)
  rfl (fun _ _=>rfl) rfl rfl (.of rfl rfl)
  (fun q hq hs=>by
    obtain⟨j1,j2,j3⟩:=qa (h.ok k) hp hne hs.1 (Au hq) hkk
    exact⟨j3 (.inr fun hl=>by unfold eV;rw[if_pos hl];rfl) hs,(j2 w).1⟩)
  (fun q hq hs=>by
    obtain⟨j1,j2,j3⟩:=qa (h.ok k) hp hne hs (As hq) hkk
    exact⟨j1,(j2 w).2⟩)
 exact⟨u,F1,F2,g1,hown,g3,r1,g4,r2⟩
theorem Hp.fill[Mode](h:Hp cx ct vl fp G w){k:Nat}{p:Path}(hp':(ct k).eA p)(hne:p≠[]){u:Value}(hu:aP w (vl k) (ct k) p=some u){y:D}{Fy G':Nat->Prop}(hy:aj w (aq cx fp G w) u y Fy)(hag:y.isAgg=false)
  (hF:∀b,Fy b->G b) (hG:∀b,G' b->G b) (hFG:∀b,Fy b->¬G' b) (hrefs:∀j,(ct j).refs fun d=>bF k p d=false) :
  Hp cx (aA ct k ((ct k).setAt p (if bp (ct k) p=true then .o y else y))) vl (aA fp k fun b=>fp k b\/Fy b) G' w/\∀d,bF k p d=false->cX w w ct (aA ct k ((ct k).setAt p (if bp (ct k) p=true then .o y else y))) vl vl d:=by
 obtain⟨hp,hok⟩:=hp';obtain⟨u',F1,F2,g1,g2,g3,g4,g5,g6,g7⟩:=(h.ok k).splitAt hp hne;rw[hu] at g1;injection g1 with g1
 subst g1
 have hkk:fF (ct k) p (if bp (ct k) p=true then .o y else y):=by
  have nonagg:∀(p:Path)(x:D)(y:D),y.isAgg=false->ei x p y:=by
   intro p;induction p with
   | nil=>intro x y _;trivial
   | cons s p ih =>
    intro x y hy;cases p with
    | nil =>
     simp only[ei];generalize x.un=z;cases z<;>first | trivial | exact .inr hy
    | cons t p=>exact ih _ y hy
  revert hp;cases ct k<;>intro hp<;>try exact hp.elim
  case row=>exact absurd hp hne
  case o x =>
   have:bp (.o x) p=false:=by cases p<;>rfl
   rw[if_neg (by rw[this];simp)];exact nonagg p x y hag
  case box l =>
   cases p with
   | nil=>exact absurd rfl hne
   | cons s p=>cases p with
    | nil=>trivial
    | cons t p=>exact nonagg (t::p) _ y hag
 have hpart:gf w (aq cx fp G w) (af w ct vl) u Fy (bp (ct k) p) (if bp (ct k) p=true then .o y else y):=by
  unfold gf;cases bp (ct k) p with
  | true=>exact hy
  | false=>exact hy
 refine h.change (fun d=>bF k p d=false) (Bc hp hne _) (g6 w (aq cx fp G w) _ (fun _=>True) _ Fy _ (fun _ h=>h) (fun _ _=>rfl) (fun _ _=>rfl) hpart (fun b hb hb2=>h.cC k b (g4 b hb2) (hF b hb)) hkk (fun _ h=>.inr h) (fun b hb=>.inl (g4 b hb)) (bn (fun _=>trivial) _) (fun _ _ _ h=>h))
  (fun j _=>hrefs j) (tD (h.ok k) hp hne (hrefs k) fun hl=>by rw[if_pos hl];trivial) (fun b hb=>hb.imp id (hF b)) (fun b hb=>.inr (hG b hb)) (fun b hb hg=>hb.elim (fun h'=>h.cC k b h' (hG b hg)) fun h'=>hFG b h' hg)
  rfl (fun _ _=>rfl) rfl rfl (.of rfl rfl)
  (fun q hq hs=>by
    obtain⟨j1,j2,j3⟩:=qa (h.ok k) hp hne hs.1 (Au hq) hkk
    exact⟨j3 (.inr fun hl=>by rw[if_pos hl];rfl) hs,(j2 w).1⟩)
  (fun q hq hs=>by
    obtain⟨j1,j2,j3⟩:=qa (h.ok k) hp hne hs (As hq) hkk
    exact⟨j1,(j2 w).2⟩)
theorem Hp.store[Mode](h:Hp cx ct vl fp G w){k:Nat}{p:Path}(hp:(ct k).aZ p)(hne:p≠[]){a:Addr}(ha:aH w (vl k) (ct k) p=some a){u':Value}{y:D}{Fy G':Nat->Prop}
  (hy:gf w (aq cx fp G w) (af w ct vl) u' Fy (bp (ct k) p) y) (hd:fF (ct k) p y) (hrefs:∀j,(ct j).refs fun d=>bq k p d=false) (hyr:bp (ct k) p=true->y.refs fun d=>bq k p d=false)
  (hF:∀b,Fy b->G b) (hG:∀b,G' b->G b) (hFG:∀b,Fy b->¬G' b) :
  (∃u,w.cell? a=some u)/\w.frozen? a=false/\a.spot=none/\Hp cx (aA ct k ((ct k).setAt p y)) vl (aA fp k fun b=>fp k b\/Fy b) G' (w.setCell a u') /\
    ∀d,bq k p d=false->cX w (w.setCell a u') ct (aA ct k ((ct k).setAt p y)) vl vl d:=by
 obtain⟨u,F1,F2,g1,g2,g3,g4,g5,g6,g7⟩:=(h.ok k).splitAt hp hne;obtain⟨j1,j2,j3,j3',j4⟩:=g7 a ha;refine⟨⟨u,j3⟩,j3',j2,?_⟩;have hab:fp k a.block:=g4 _ j1;have hother:∀b,b≠a.block->(w.setCell a u').heap[b]?=w.heap[b]?:=fun b hb=>tQ u' hb
 refine h.change (fun d=>bq k p d=false) (Bc hp hne _) (j4 u' (w.setCell a u') (aq cx fp G w) (af w ct vl) (fun _=>True) y Fy (fun b=>fp k b\/Fy b) (fun _ h=>h) (fun b hb=>hother b (by rintro rfl;exact hb.2.2 k hab)) (fun b _ hne=>hother b hne) rfl ?_ ?_ hd (fun _ h=>.inr h) (fun b hb=>.inl (g4 b hb)) (bn (fun _=>trivial) _) (fun _ _ _ h=>h))
  (fun j _=>hrefs j) (tD (h.ok k) hp hne (hrefs k) hyr) (fun b hb=>hb.imp id (hF b)) (fun b hb=>.inr (hG b hb)) (fun b hb hg=>hb.elim (fun h'=>h.cC k b h' (hG b hg)) fun h'=>hFG b h' hg)
  (by simp) (fun b hb=>hother b (by rintro rfl;exact hb hab)) rfl rfl (.of rfl rfl)
  (fun q hq hs=>by
    obtain⟨i1,i2,i3⟩:=qa (h.ok k) hp hne hs.1 (Nat.le_of_lt (wy hq)) hd;obtain⟨m1,_⟩:=Hy (h.ok k) hp hne ha (w':=w.setCell a u') (fun b _ hb=>hother b hb) hs.1
    exact⟨i3 (.inl (wy hq)) hs,by rw[(i2 _).1];exact m1 (wy hq)⟩)
  (fun q hq hs=>by
    obtain⟨i1,i2,i3⟩:=qa (h.ok k) hp hne hs (Av hq) hd;obtain⟨_,m2⟩:=Hy (h.ok k) hp hne ha (w':=w.setCell a u') (fun b _ hb=>hother b hb) hs
    exact⟨i1,by rw[(i2 _).2];exact m2 (Av hq)⟩)
 ·have hFa:∀b,Fy b->b≠a.block:=by rintro b hb rfl;exact h.cC k _ hab (hF _ hb)
  have aM:∀b,aq cx fp G w b->b≠a.block:=by rintro b hb rfl;exact hb.2.2 k hab
  unfold gf at hy|-
  split
  ·rename_i hl
   rw[hl] at hy;exact hy.mono (Q:=fun _=>True) (fun _ h=>h) (fun b hb=>hother b (aM b hb)) (fun b hb=>hother b (hFa b hb)) (fun _ h=>h) (bn (fun _=>trivial) _) (fun _ _ _ h=>h)
  ·rename_i hl
   rw[hl] at hy;exact hy.mono (fun _ h=>h) (fun b hb=>hother b (aM b hb)) (fun b hb=>hother b (hFa b hb)) (fun _ h=>h)
 ·intro b hb hb2
  exact h.cC k b (g4 b hb2) (hF b hb)
end
end Go.D3
namespace Go.D3
open Go
inductive Arg where
 | v (x:D)
 | own (x:D)
 | io (x y:D)
def Arg.pre(w:World)(A:Nat->Prop)(v:Value)(F:Nat->Prop):Arg->Prop
 | .v x=>Rd w A v x/\∀b,¬F b
 | .own x=>aj w A v x F
 | .io x _=>aI w A (fun _ _=>False) v F x
def Arg.post(w:World)(A:Nat->Prop)(v:Value)(F:Nat->Prop):Arg->Prop
 | .io _ y=>aI w A (fun _ _=>False) v F y
 | _=>∀b,¬F b
def aw[Mode](P:Program)(f:FuncId)(as:List Arg)(res:D):Prop :=
 ∀(w:World)(A:Nat->Prop)(vs:Array Value)(Fs:Nat->Nat->Prop),fb w A->(∀b,A b->b<w.heap.size)->vs.size=as.length->(∀(j:Nat)(a:Arg),as[j]?=some a->a.pre w A (vs.getD j undef) (Fs j)) ->
  (∀i j b,i≠j->Fs i b->¬Fs j b)->(∀j b,Fs j b->b<w.heap.size/\¬A b/\j<as.length) ->
  Calls P f vs w fun e w'=>∃(v:Value)(F:Nat->Prop)(Fs':Nat->Nat->Prop),e=.returned v/\w.heap.size<=w'.heap.size /\
   aj w' (fun b=>A b\/(w.heap.size<=b/\b<w'.heap.size/\¬F b/\∀j,¬Fs' j b)) v res F /\
   (∀(j:Nat)(a:Arg),as[j]?=some a->a.post w' (fun b=>A b\/(w.heap.size<=b/\b<w'.heap.size/\¬F b/\∀j,¬Fs' j b)) (vs.getD j undef) (Fs' j)) /\
   (∀b,F b->b<w'.heap.size/\(w.heap.size<=b\/∃j,Fs j b)/\∀j,¬Fs' j b)/\(∀j b,Fs' j b->b<w'.heap.size/\(w.heap.size<=b\/∃j,Fs j b)/\j<as.length)/\(∀i j b,i≠j->Fs' i b->¬Fs' j b) /\
   (∀b,b<w.heap.size->(∀j,¬Fs j b)->w'.heap[b]?=w.heap[b]?)/\w'.os=w.os/\w'.tape=w.tape/\cJ w w'
inductive X where
 | t (i:Nat)
 | v (j:Nat)
 | i (n:Int)
 | k (d:D)
 | g (n:Nat)
 deriving Inhabited
inductive Kp where
 | mv (x:X)
 | pick (c a b:X)
 | bin (op:BinOp) (x y:X)
 | not (x:X)
 | conv(k:IntKind) (x:X)
 | len (x:X)
 | qY (x:X)
 | br (sz:Nat) (x i:X)
 | ld (a:X)
 | ee (n:Nat) (a:X)
 | fA (off:Nat) (a:X)
 | qR (off:Nat) (x:X)
 | im (zs:List D) (parts:List (Nat×Nat×X))
 | qU (x i:X)
 | ext (i:Nat) (x:X)
 | bD (x:X)
 | eqs (neg:Bool) (ks:List Nat) (x y:X)
 | qb (x:X) (lo hi:Option X)
 | sl (x:X) (lo hi:Option X)
 | rf (f:FuncId) (caps:List X)
 | call (f:FuncId) (xs:List X)
 | box (n:Nat) (x:X)
 | gh (n:Nat) (x:X)
 | cB (zs:List D)
 | ah (z:D) (bytes:Nat) (l c:X)
 | ch (z:D) (n:Nat) (parts:List (Nat×X))
 | bX (j:Nat) (x:X)
 | jX (j:Nat) (x:X)
 | st (a x:X)
 | bG (n:Nat) (a x:X)
 | jk (n:Nat) (a x:X)
 | app (sz bytes:Nat) (s x:X)
 | iN (f:FuncId) (xs:List X)
 | dyn (x:X) (xs:List X)
 | lX (n:Nat) (x:X)
 | eJ (sz bytes b s:Nat)
 | gF
 | pz (ok:Bool) (kk:Nat) (z:D) (m k:X)
 | pv (x:X)
 | mu (kk:Nat) (m k v:X)
 | oZ (x:X)
 | rj (neg:Bool) (x:X)
 | fq (x:X)
 | mB (j:Nat)
 | gB (x:X)
 | jZ (z:D) (x:X)
 | jY (j:Nat) (x:X)
 | mm (mx:Bool) (x y:X)
 | pE (neg:Bool) (x:X)
 | re (t:TypeId) (x:X)
 deriving Inhabited
structure bd where
 g:Option (Nat×Bool)
 k:Kp
 deriving Inhabited
def oL:List Kp->List bd
 | []=>[]
 | k::r=>⟨none,k⟩::oL r
def Kp.m(i:Nat):Kp:=.mv (.v i)
def Kp.n(i:Nat):Kp:=.mv (.t i)
def Kp.a(j i:Nat):Kp:=.bX j (.t i)
inductive RT where
 | leaf (l:List bd) (post:List (Nat×Nat))
 | two (i j:Nat) (pm:List Nat) (a b:RT)
 deriving Inhabited
inductive C where
 | skip
 | ops (pre:List Nat) (l:List bd) (post:List (Nat×Nat))
 | eF (pre:List Nat) (l:List bd) (post:List (Nat×Nat)) (x:X) (a b:C)
 | wg (pre:List Nat) (l:List bd) (post:List (Nat×Nat)) (x:X) (a b c:C)
 | alt (pre:List Nat) (t:RT)
 | seq (a b:C)
 | cond (x:X) (a b:C)
 | block (id:Nat) (c:C)
 | loop (c:C)
 | exit (id:Nat)
 | ret
 deriving Inhabited
def C.u(l:List Kp):C:=.ops [] (oL l) []
def D.core:D->D
 | .when _ x=>x.core
 | x=>x
def D.gate:D->Bool
 | .when g x=>g&&x.gate
 | _=>true
mutual
def da(k:Nat)(p:Path):D->D
 | .int a n=>.int a n
 | .bool b=>.bool b
 | .str s=>.str s
 | .bc=>.bc
 | .fn f []=>.fn f []
 | .slice _ _=>.sub k p
 | .mp _ _=>.sub k p
 | .bJ=>.bJ
 | .bf t x=>.bf t x
 | .aY=>.aY
 | .ptr (_::_)=>.av k (p++[(0,0)])
 | .agg l=>.agg (kg k p 0 l)
 | .al l=>.al (kg k p 0 l)
 | .vw x=>x
 | _=>.dead
def kg(k:Nat)(p:Path)(j:Nat):List D->List D
 | []=>[]
 | x::r=>da k (p++[(0,j)]) x::kg k p (j+1) r
end
def cu(k:Nat):D->D
 | .o x=>da k [] x
 | .box _=>.av k [(0,0)]
 | .row _ _=>.sub k []
 | c=>c
def qC(k:Nat)(p:Path):D->D
 | .o x=>da k p x
 | c=>c
def px(k:Nat)(c:D)(p:Path):D :=
 match bp c p with
 | true=>qC k p (c.at p)
 | false=>da k p (c.at p)
abbrev PR:=Prop×D
def one(x:D):Option PR:=some (True,x)
def Nv(k:IntKind)(a b:Int):Int:=k.wrap (BitVec.ofInt k.bits a &&& BitVec.ofInt k.bits b).toNat
def gD(op:BinOp)(k:IntKind)(a b:Int):Option PR :=
 match op with
 | .add=>some (True,.int k (k.wrap (a+b)))
 | .sub=>some (True,.int k (k.wrap (a-b)))
 | .mul=>some (True,.int k (k.wrap (a*b)))
 | .quo=>some (b≠0,.int k (k.wrap (a.tdiv b)))
 | .rem=>some (b≠0,.int k (a.tmod b))
 | .eql=>some (True,.bool (a == b))
 | .neq=>some (True,.bool (a != b))
 | .lss=>some (True,.bool (decide (a<b)))
 | .leq=>some (True,.bool (decide (a<=b)))
 | .gtr=>some (True,.bool (decide (a > b)))
 | .geq=>some (True,.bool (decide (a>=b)))
 | .and=>some (True,.int k (Nv k a b))
 | _=>none
def kS(op:BinOp)(a b:List UInt8):Option PR :=
 match op with
 | .add=>some (a.length+b.length<=maxLen,.str (a++b))
 | .eql=>some (True,.bool (a == b))
 | .neq=>some (True,.bool (!(a == b)))
 | .lss=>some (True,.bool (Op.bytesLess a b))
 | .leq=>some (True,.bool (Op.bytesLess a b || a == b))
 | .gtr=>some (True,.bool (!(Op.bytesLess a b || a == b)))
 | .geq=>some (True,.bool (!Op.bytesLess a b))
 | _=>none
def qx(op:BinOp)(a b:Bool):Option PR :=
 match op with
 | .eql=>some (True,.bool (a == b))
 | .neq=>some (True,.bool (!(a == b)))
 | _=>none
def sn(op:BinOp)(x y:D):Option PR :=
 match x,y with
 | .int k a,.int k' b=>if k=k' then gD op k a b else none
 | .str a,.str b=>kS op a b
 | _,_=>none
def wQ(x y:D):Option PR :=
 match x,y with
 | .int k a,.int _ b=>some (0<=b/\b<=k.bits,.int k (a.fdiv (2 ^ b.toNat)))
 | _,_=>none
def mr:Bool->Int->Int->Int
 | true,a,b=>max a b
 | false,a,b=>min a b
def vL(mx:Bool)(x y:D):Option PR :=
 match x,y with
 | .int k a,.int k' b=>if k=k' then some (True,.int k (mr mx a b)) else none
 | _,_=>none
def uM(op:BinOp)(x y:D):Option PR :=
 match x,y with
 | .bool a,.bool b=>qx op a b
 | _,_=>none
def oe(c a b:Bool):Bool:=match c with | true=>a | false=>b
def wq(cg ag bg:Bool)(c a b:D):Option PR :=
 match c,a,b with
 | .bool cb,.bool x,.bool y=>some (cg=true/\(cb=true->ag=true)/\(cb=false->bg=true),.bool (oe cb x y))
 | _,_,_=>none
def vS(x:D):Option PR :=
 match x with
 | .bool b=>one (.bool (!b))
 | _=>none
def uW(k:IntKind)(x:D):Option PR :=
 match x with
 | .int k0 a=>one (.int k (if k0=k then a else k.wrap a))
 | _=>none
def D.cm:D->Option Nat
 | .slice _ l=>some l.length
 | .aB _=>some 0
 | .row _ l=>some l.length
 | _=>none
def lk(ob:Nat->D)(k:Nat):Option D:=if(ob k).isObj=true then some (ob k) else none
def lB(ob:Nat->D)(x:D):Option PR :=
 match x with
 | .sub k p=>(lk ob k).bind fun c=>(c.bm p).cm.bind fun n=>one (.int .i64 n)
 | x=>x.cm.bind fun n=>one (.int .i64 n)
def vC(x:D):Option PR :=
 match x with
 | .str s=>one (.int .i64 s.length)
 | _=>none
def D.jA(d:D)(i:Nat):List D :=
 match d with
 | .slice z l=>(l.getD i z).cells
 | _=>[]
def nP(sz:Nat)(ob:Nat->D)(x i:D):Option PR :=
 match i with
 | .int _ n=>match x with
  | .sub k p=>(lk ob k).bind fun c=>match c with
   | .row _ _=>none
   | c=>(c.bm p).cm.bind fun m=>some (0<=n/\n<m/\((c.bm p).jA n.toNat).length=sz,.av k (p++[(n.toNat,0)]))
  | x=>x.cm.bind fun m=>some (0<=n/\n<m/\(x.jA n.toNat).length=sz,.ptr (x.jA n.toNat))
 | _=>none
def nU(ob:Nat->D)(a:D):Option PR :=
 match a with
 | .ptr (x::_)=>one x
 | .av k p=>(lk ob k).bind fun c=>one (px k c p)
 | _=>none
def bump:Path->Nat->Path
 | [],_=>[]
 | [(i,off)],n=>[(i,off+n)]
 | s::p,n=>s::bump p n
def looks(k:Nat)(c:D)(p:Path):Nat->Nat->List D
 | 0,_=>[]
 | n+1,j=>px k c (bump p j)::looks k c p n (j+1)
def sK(c:D)(p:Path):Nat->Nat->Prop
 | 0,_=>True
 | n+1,j=>c.aZ (bump p j)/\sK c p n (j+1)
def nV(n:Nat)(ob:Nat->D)(a:D):Option PR :=
 match a with
 | .ptr l=>some (n<=l.length,.agg (l.take n))
 | .av k p=>(lk ob k).bind fun c=>some (sK c p n 0,.agg (looks k c p n 0))
 | _=>none
def nD(off:Nat)(ob:Nat->D)(a:D):Option PR :=
 match a with
 | .ptr l=>one (.ptr (l.drop off))
 | .av k p=>(lk ob k).bind fun c=>some (c.aZ (bump p off),.av k (bump p off))
 | _=>none
def vf(off:Nat)(x:D):Option PR :=
 match x with
 | .agg l=>some (off<l.length,l.getD off .dead)
 | _=>none
def vg(off n:Nat)(x:D):Option PR :=
 match x with
 | .agg l=>some (off+n<=l.length,.agg ((l.drop off).take n))
 | _=>none
def D.cellsOf:D->Option (List D)
 | .agg l=>some l
 | .al _=>none
 | .dead=>none
 | .when _ _=>none
 | .o _=>none
 | .box _=>none
 | .row _ _=>none
 | .vw _=>none
 | x=>some [x]
def setCells(l:List D)(off:Nat):List D->List D
 | []=>l
 | x::r=>setCells (l.set off x) (off+1) r
def nG(rd:X->D):List D->List (Nat×Nat×X)->Option (Bool×List D)
 | cs,[]=>some (true,cs)
 | cs,(off,n,x)::r=>(rd x).core.cellsOf.bind fun l =>
  if l.length=n/\off+n<=cs.length then(nG rd (setCells cs off l) r).bind fun p=>some ((rd x).gate&&p.1,p.2) else none
def vp(x i:D):Option PR :=
 match x,i with
 | .str s,.int _ n=>some (0<=n/\n<s.length,.int .u8 (s.getD n.toNat 0).toNat)
 | _,_=>none
def vb(i:Nat)(x:D):Option PR :=
 match x with
 | .al l=>some (i<l.length,l.getD i .dead)
 | _=>none
def nX(x:D):Option PR :=
 match x with
 | .ptr l=>one (.ptr l)
 | .av k p=>one (.av k p)
 | .fn f caps=>one (.fn f caps)
 | _=>none
def iu:List Nat->List D->List D->Option Bool
 | [],[],[]=>some true
 | 0::ks,.int k a::l,.int k' b::r=>if k=k' then(iu ks l r).bind fun y=>some (a == b&&y) else none
 | 1::ks,.bool a::l,.bool b::r=>(iu ks l r).bind fun y=>some (a == b&&y)
 | 2::ks,.str a::l,.str b::r=>(iu ks l r).bind fun y=>some (a == b&&y)
 | _,_,_=>none
def u7(neg:Bool)(ks:List Nat)(x y:D):Option PR :=
 match x,y with
 | .agg l,.agg r=>(iu ks l r).bind fun b=>some (True,.bool (if neg then !b else b))
 | _,_=>none
def D.cut(l h:Nat):D->Option D
 | .slice z x=>some (.slice z ((x.take h).drop l))
 | .aB z=>some (.slice z [])
 | .str x=>some (.str ((x.take h).drop l))
 | _=>none
def D.gR:D->Nat
 | .slice z _=>z.cells.length
 | .aB z=>z.cells.length
 | _=>0
def D.int?:D->Option Int
 | .int _ n=>some n
 | _=>none
def D.oE:D->Option (List UInt8)
 | .str s=>some s
 | _=>none
def kX(rd:X->D)(dflt:Nat):Option X->Option (Bool×Int)
 | none=>some (true,dflt)
 | some x=>(rd x).core.int?.bind fun n=>some ((rd x).gate,n)
def Bi(rd:X->D)(x:X)(lo hi:Option X):Option PR :=
 (rd x).core.oE.bind fun s=>(kX rd 0 lo).bind fun p=>(kX rd s.length hi).bind fun q =>
   some (((rd x).gate=true/\p.1=true/\q.1=true)/\0<=p.2/\p.2<=q.2/\q.2<=s.length,.str ((s.take q.2.toNat).drop p.2.toNat))
def oH:D->Option X->Option (Nat×Path)
 | .sub k p,none=>some (k,p)
 | _,_=>none
theorem aaw{d:D}{lo:Option X}{k:Nat}{p:Path}(h:oH d lo=some (k,p)):d=.sub k p/\lo=none:=by
 unfold oH at h;split at h
 ·injection h with h;injection h with h1 h2;subst h1;subst h2;exact⟨rfl,rfl⟩
 ·cases h
def wT(rd:X->D)(ob:Nat->D)(x:X)(lo hi:Option X):Option PR:=(oH (rd x).core lo).elim
 ((rd x).core.cm.bind fun n=>(kX rd 0 lo).bind fun p=>(kX rd n hi).bind fun q=>((rd x).core.cut p.2.toNat q.2.toNat).bind fun z =>
   some (((rd x).gate=true/\p.1=true/\q.1=true)/\(rd x).core.gR=1/\0<=p.2/\p.2<=q.2/\q.2<=n,z))
 fun k=>(lk ob k.1).bind fun c=>(c.bm k.2).cm.bind fun n=>(kX rd n hi).bind fun q =>
  some (((rd x).gate=true/\q.1=true)/\(c.bm k.2).gR=1/\0<=q.2/\q.2<=n,.pre k.1 k.2 q.2.toNat)
def D.sa:D->Option D
 | .av k p=>some (.av k p)
 | .ptr l=>some (.ptr l)
 | _=>none
def nx(rd:X->D):List X->Option (List D)
 | []=>some []
 | x::r=>(rd x).sa.bind fun y=>(nx rd r).bind fun l=>some (y::l)
def g1(x:D):Option PR->Option PR
 | some (s,d)=>some (x.gate=true/\s,d)
 | none=>none
def g2(x y:D):Option PR->Option PR
 | some (s,d)=>some ((x.gate=true/\y.gate=true)/\s,d)
 | none=>none
def mh(a b:D):Option Bool :=
 match a,b with
 | .int k a,.int k' b=>if k=k' then some (a == b) else none
 | .str a,.str b=>some (a == b)
 | .bool a,.bool b=>some (a == b)
 | _,_=>none
def fQ(k:D):List D->Option (Option Nat)
 | []=>some none
 | e::r=>(mh k e).bind fun b=>if b=true then some (some 0) else(fQ k r).bind fun o=>some (o.map (·+1))
def D.kE:D->Option (List D×List D)
 | .mp ks vs=>some (ks,vs)
 | _=>none
def D.rh:D->Option (List D×List D)
 | .mp ks vs=>some (ks,vs)
 | .bJ=>some ([],[])
 | _=>none
def mapOf(ob:Nat->D)(x:D):Option (List D×List D) :=
 match x with
 | .sub k p=>(lk ob k).bind fun c=>(c.bm p).kE
 | x=>x.rh
def D.kz(kk:Nat):D->Bool
 | .int _ _=>kk == 0
 | .bool _=>kk == 1
 | .str _=>kk == 2
 | _=>false
def jK(z:D)(vs:List D):Option Nat->D
 | some i=>vs.getD i z
 | none=>z
def vJ(ok:Bool)(kk:Nat)(z:D)(ob:Nat->D)(m k:D):Option PR :=
 (mapOf ob m).bind fun e=>(fQ k e.1).bind fun r=>some (k.kz kk=true,match ok with | true=>.al [jK z e.2 r,.bool r.isSome] | false=>jK z e.2 r)
def vB(ob:Nat->D)(x:D):Option PR:=(mapOf ob x).bind fun e=>some (True,.int .i64 e.1.length)
def cM(k v:D)(ks vs:List D):Option Nat->List D×List D
 | some i=>(ks,vs.set i v)
 | none=>(ks++[k],vs++[v])
def bytesOf:List D->Option (List UInt8)
 | []=>some []
 | .int .u8 n::r=>(bytesOf r).bind fun l=>some (UInt8.ofNat n.toNat::l)
 | _=>none
def D.lY:D->Option (List UInt8)
 | .slice _ l=>bytesOf l
 | .row _ l=>bytesOf l
 | .aB _=>some []
 | _=>none
def qI(ob:Nat->D)(x:D):Option PR :=
 match x with
 | .sub k p=>(lk ob k).bind fun c=>(c.bm p).lY.bind fun s=>one (.str s)
 | x=>x.lY.bind fun s=>one (.str s)
def rk(neg:Bool)(x:D):Option PR :=
 match x with
 | .aY=>some (True,.bool (!neg))
 | .bf _ _=>some (True,.bool neg)
 | _=>none
def sv(s:List UInt8):D:=.slice (.int .u8 0) (s.map fun b=>.int .u8 b.toNat)
def sX(neg:Bool)(ob:Nat->D)(x:D):Option PR :=
 match x with
 | .aB _=>some (True,.bool (!neg))
 | x=>(lB ob x).bind fun p=>match p.2 with
  | .int _ n=>some (0<n,.bool neg)
  | _=>none
def zm(t:TypeId)(x:D):Option PR :=
 match x with
 | .agg [.str s]=>some (True,.bf t (.agg [.str s]))
 | _=>none
def bC(k:Kp)(rd:X->D)(ob:Nat->D):Option PR :=
 match k with
 | .mv x=>g1 (rd x) (one (rd x).core)
 | .pick c a b=>wq (rd c).gate (rd a).gate (rd b).gate (rd c).core (rd a).core (rd b).core
 | .bin op x y=>g2 (rd x) (rd y) (sn op (rd x).core (rd y).core)
 | .mm mx x y=>g2 (rd x) (rd y) (vL mx (rd x).core (rd y).core)
 | .not x=>g1 (rd x) (vS (rd x).core)
 | .conv k x=>g1 (rd x) (uW k (rd x).core)
 | .len x=>g1 (rd x) (lB ob (rd x).core)
 | .qY x=>g1 (rd x) (vC (rd x).core)
 | .br sz x i=>g2 (rd x) (rd i) (nP sz ob (rd x).core (rd i).core)
 | .ld a=>g1 (rd a) (nU ob (rd a).core)
 | .ee n a=>g1 (rd a) (nV n ob (rd a).core)
 | .fA off a=>g1 (rd a) (nD off ob (rd a).core)
 | .qR off x=>g1 (rd x) (vf off (rd x).core)
 | .im zs parts=>(nG rd zs parts).bind fun p=>some (p.1=true,.agg p.2)
 | .qU x i=>g2 (rd x) (rd i) (vp (rd x).core (rd i).core)
 | .ext i x=>g1 (rd x) (vb i (rd x).core)
 | .bD x=>g1 (rd x) (nX (rd x).core)
 | .eqs neg ks x y=>g2 (rd x) (rd y) (u7 neg ks (rd x).core (rd y).core)
 | .qb x lo hi=>Bi rd x lo hi
 | .sl x lo hi=>wT rd ob x lo hi
 | .rf f caps=>(nx rd caps).bind fun l=>some (True,.fn f l)
 | .pz ok kk z m k=>g2 (rd m) (rd k) (vJ ok kk z ob (rd m).core (rd k).core)
 | .pv x=>g1 (rd x) (vB ob (rd x).core)
 | .oZ x=>g1 (rd x) (qI ob (rd x).core)
 | .rj neg x=>g1 (rd x) (rk neg (rd x).core)
 | .pE neg x=>g1 (rd x) (sX neg ob (rd x).core)
 | .re t x=>g1 (rd x) (zm t (rd x).core)
 | _=>none
end Go.D3
