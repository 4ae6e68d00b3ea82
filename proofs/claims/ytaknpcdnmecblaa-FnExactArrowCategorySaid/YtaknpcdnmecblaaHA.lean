/- THE OPERATIONS IN SHORT FORM AND WHAT THE PURE ONES COMPUTE. Generic. -/
import Derived.Calls
import Derived.Laws.World
import GoSem.ClaimData
namespace Go.D3
open Go
abbrev Path:=List (Nat×Nat)
inductive D where
 | int (k:IntKind) (n:Int)
 | bool (b:Bool)
 | str (s:List UInt8)
 | slice (z:D) (l:List D)
 | agg (l:List D)
 | au (l:List D)
 | ptr (l:List D)
 | aF
 | fn (f:FuncId) (caps:List D)
 | vw (x:D)
 | o (x:D)
 | box (l:List D)
 | row (z:D) (l:List D)
 | sub (k:Nat) (p:Path)
 | aq (k:Nat) (p:Path)
 | pre (k:Nat) (p:Path) (n:Nat)
 | when (g:Bool) (x:D)
 | aM (z:D)
 | dead
 | mp (ks vs:List D)
 | bw
 | bq (t:TypeId) (x:D)
 | bl
 | bE (s:List UInt8) (pos:Nat)
 | fv (n:Nat)
 deriving Inhabited
def D.cells:D->List D
 | .agg l=>l
 | d=>[d]
def D.isAgg:D->Bool
 | .agg _=>true
 | _=>false
theorem D.cells_one{d:D}(h:d.isAgg=false):d.cells=[d]:=by
 cases d<;>simp[D.isAgg] at h<;>rfl
def cellAt(L:List D)(sz:Nat)(j:Nat):Option D:=(L[j / sz]?).bind fun(d:D)=>d.cells[j % sz]?
theorem jz{L:List D}{sz j:Nat}{x:D}(hz : 0<sz)(h:cellAt L sz j=some x):j<L.length*sz:=by
 unfold cellAt at h;cases hL:L[j / sz]? with
 | none=>simp[hL] at h
 | some d=>exact(Nat.div_lt_iff_lt_mul hz).1 (List.getElem?_eq_some_iff.1 hL).1
theorem z8{L:List D}{sz j:Nat}(hz : 0<sz)(hsz:∀x∈L,x.cells.length=sz)(h:j<L.length*sz):∃x,cellAt L sz j=some x:=by
 have hlt:j / sz<L.length:=(Nat.div_lt_iff_lt_mul hz).2 h;have hl:=hsz L[j / sz] (List.getElem_mem hlt);have hmod:=Nat.mod_lt j hz;have hm':j % sz<(L[j / sz]).cells.length:=by omega
 exact⟨(L[j / sz]).cells[j % sz],by simp[cellAt,List.getElem?_eq_getElem hlt,List.getElem?_eq_getElem hm']⟩
inductive Sc:Value->D->Prop
 | int {k:IntKind} {n:Int} (h:k.has n):Sc (.int k n) (.int k n)
 | bool {b:Bool}:Sc (.bool b) (.bool b)
 | str {s:List UInt8} (h:s.length<=maxLen):Sc (.string ⟨s.toArray⟩) (.str s)
 | agg {cs:Array Value} {l:List D} (hs:cs.size=l.length) (hr:∀j x,l[j]?=some x->Sc (cs.getD j undef) x):Sc (.agg cs) (.agg l)
def lU(es:Array MapEntry)(ks vs:List D):Prop :=
 (es.size=ks.length/\vs.length=ks.length/\ks.length<=maxLen)/\(∀(j:Nat)(e:MapEntry)(k:D),es[j]?=some e->ks[j]?=some k->Sc e.key k)/\∀(j:Nat)(e:MapEntry)(v:D),es[j]?=some e->vs[j]?=some v->Sc e.val v
inductive Rd(w:World)(A:Nat->Prop):Value->D->Prop
 | int {k:IntKind} {n:Int} (h:k.has n):Rd w A (.int k n) (.int k n)
 | bool {b:Bool}:Rd w A (.bool b) (.bool b)
 | str {s:List UInt8} (h:s.length<=maxLen):Rd w A (.string ⟨s.toArray⟩) (.str s)
 | nil {z:D}:Rd w A (.slice none 0 0) (.slice z [])
 | empty {z:D} {p:Addr} {cap:Nat} (hm:cap<=maxLen):Rd w A (.slice (some p) 0 cap) (.slice z [])
 | slice {z:D} {L:List D} {b off cap sz:Nat} (hA:A b) (hc:L.length<=cap) (hm:cap<=maxLen) (hz : 0<sz) (hzz:z.cells.length=sz)
   (hsz:∀x∈L,x.cells.length=sz)
   (vs:Nat->Value) (hcells:∀j x,cellAt L sz j=some x->w.cell? ⟨b,off+j,none⟩=some (vs j))
   (hr:∀j x,cellAt L sz j=some x->Rd w A (vs j) x):Rd w A (.slice (some ⟨b,off,none⟩) L.length cap) (.slice z L)
 | agg {cs:Array Value} {l:List D} (hs:cs.size=l.length) (hr:∀j x,l[j]?=some x->Rd w A (cs.getD j undef) x):Rd w A (.agg cs) (.agg l)
 | au {cs:Array Value} {l:List D} (hs:cs.size=l.length) (hr:∀j x,l[j]?=some x->Rd w A (cs.getD j undef) x):Rd w A (.tuple cs) (.au l)
 | ptr {b off:Nat} {l:List D} (hA:A b) (vs:Nat->Value) (hcells:∀j x,l[j]?=some x->w.cell? ⟨b,off+j,none⟩=some (vs j))
   (hr:∀j x,l[j]?=some x->Rd w A (vs j) x):Rd w A (.pointer (some ⟨b,off,none⟩)) (.ptr l)
 | aF:Rd w A (.pointer none) .aF
 | fn {f:FuncId} {cs:Array Value} {l:List D} (hs:cs.size=l.length) (hr:∀j x,l[j]?=some x->Rd w A (cs.getD j undef) x):Rd w A (.func (.func f) #[] cs) (.fn f l)
 | vw {v:Value} {d:D} (h:Rd w A v d):Rd w A v (.vw d)
 | o {v:Value} {d:D} (h:Rd w A v d):Rd w A v (.o d)
 | aM {z:D}:Rd w A (.slice none 0 0) (.aM z)
 | dead {v:Value}:Rd w A v .dead
 | mp {ks vs:List D} {r clock:Nat} {es:Array MapEntry} (hA:A r) (hb:w.heap[r]?=some (.map es clock)) (hE:lU es ks vs):Rd w A (.map (some r)) (.mp ks vs)
 | bw:Rd w A (.map none) .bw
 | bq {t:TypeId} {v:Value} {d:D} (h:Rd w A v d):Rd w A (.iface t v) (.bq t d)
 | bl:Rd w A .nilIface .bl
 | bE {s:List UInt8} {pos r:Nat} (hA:A r) (hb:w.heap[r]?=some (.stringIter ⟨s.toArray⟩ pos)) (hs:s.length<=maxLen):Rd w A (.pointer (some ⟨r,0,none⟩)) (.bE s pos)
 | fv {n:Nat} {t:TypeId} {a:Addr} (hA:A n) (hc:w.cell? ⟨n,0,none⟩=some (.iface t (.pointer (some a)))):Rd w A (.pointer (some a)) (.fv n)
theorem cell_of_heap{w w':World}{b off:Nat}(h:w'.heap[b]?=w.heap[b]?):w'.cell? ⟨b,off,none⟩=w.cell? ⟨b,off,none⟩:=by
 simp[World.cell?,h]
theorem Rd.mono{w w':World}{A A':Nat->Prop}{v:Value}{d:D}(h:Rd w A v d)(hA:∀b,A b->A' b)(hw:∀b,A b->w'.heap[b]?=w.heap[b]?):Rd w' A' v d:=by
 induction h with
 | int h=>exact .int h
 | bool=>exact .bool
 | str h=>exact .str h
 | nil=>exact .nil
 | empty h=>exact .empty h
 | slice hAb hc hm hz hzz hsz vs hcells _ ih =>
  exact .slice (hA _ hAb) hc hm hz hzz hsz vs (fun j x hx=>by rw[cell_of_heap (hw _ hAb)];exact hcells j x hx) ih
 | agg hs _ ih=>exact .agg hs ih
 | au hs _ ih=>exact .au hs ih
 | ptr hAb vs hcells _ ih =>
  exact .ptr (hA _ hAb) vs (fun j x hx=>by rw[cell_of_heap (hw _ hAb)];exact hcells j x hx) ih
 | aF=>exact .aF
 | fn hs _ ih=>exact .fn hs ih
 | vw _ ih=>exact .vw ih
 | o _ ih=>exact .o ih
 | aM=>exact .aM
 | dead=>exact .dead
 | mp hAr hb hE=>exact .mp (hA _ hAr) (by rw[hw _ hAr];exact hb) hE
 | bw=>exact .bw
 | bq _ ih=>exact .bq ih
 | bl=>exact .bl
 | bE hAr hb hs=>exact .bE (hA _ hAr) (by rw[hw _ hAr];exact hb) hs
 | fv hAn hc=>exact .fv (hA _ hAn) (by rw[cell_of_heap (hw _ hAn)];exact hc)
inductive af(w:World)(A:Nat->Prop):Value->D->(Nat->Prop)->Prop
 | int {k:IntKind} {n:Int} {F:Nat->Prop} (h:k.has n):af w A (.int k n) (.int k n) F
 | bool {b:Bool} {F:Nat->Prop}:af w A (.bool b) (.bool b) F
 | str {s:List UInt8} {F:Nat->Prop} (h:s.length<=maxLen):af w A (.string ⟨s.toArray⟩) (.str s) F
 | nil {z:D} {F:Nat->Prop}:af w A (.slice none 0 0) (.slice z []) F
 | aF {F:Nat->Prop}:af w A (.pointer none) .aF F
 | fn {f:FuncId} {F:Nat->Prop}:af w A (.func (.func f) #[] #[]) (.fn f []) F
 | vw {v:Value} {d:D} {F:Nat->Prop} (h:Rd w A v d):af w A v (.vw d) F
 | dead {v:Value} {F:Nat->Prop}:af w A v .dead F
 | mp {ks vs:List D} {r clock:Nat} {es:Array MapEntry} {F:Nat->Prop} (hF:F r) (hb:w.heap[r]?=some (.map es clock)) (hE:lU es ks vs):af w A (.map (some r)) (.mp ks vs) F
 | bw {F:Nat->Prop}:af w A (.map none) .bw F
 | bq {t:TypeId} {v:Value} {d:D} {F:Nat->Prop} (h:Rd w A v d):af w A (.iface t v) (.bq t d) F
 | bl {F:Nat->Prop}:af w A .nilIface .bl F
 | bE {s:List UInt8} {pos r:Nat} {F:Nat->Prop} (hF:F r) (hb:w.heap[r]?=some (.stringIter ⟨s.toArray⟩ pos)) (hs:s.length<=maxLen):af w A (.pointer (some ⟨r,0,none⟩)) (.bE s pos) F
 | slice {z:D} {L:List D} {b off cap sz:Nat} {cs:Array Value} {e:TypeId} {fz:Nat×Nat} {F:Nat->Prop} (Fs:Nat->Nat->Prop) (hb:w.heap[b]?=some (.cells cs e fz))
   (hroom:off+cap*sz<=cs.size/\(fz.2<=fz.1\/cs.size<=fz.1)) (hc:L.length<=cap) (hm:cap<=maxLen) (hz : 0<sz) (hzz:z.cells.length=sz)
   (hsz:∀x∈L,x.cells.length=sz)
   (hr:∀j x,cellAt L sz j=some x->af w A (cs.getD (off+j) undef) x (Fs j)) (hF:F b)
   (hfs:∀j c,Fs j c->c≠b/\F c) (hdis:∀i j c,i≠j->Fs i c->¬Fs j c) :
   af w A (.slice (some ⟨b,off,none⟩) L.length cap) (.slice z L) F
 | agg {cs:Array Value} {l:List D} {F:Nat->Prop} (Fs:Nat->Nat->Prop) (hs:cs.size=l.length) (hr:∀j x,l[j]?=some x->af w A (cs.getD j undef) x (Fs j))
   (hfs:∀j c,Fs j c->F c) (hdis:∀i j c,i≠j->Fs i c->¬Fs j c):af w A (.agg cs) (.agg l) F
 | au {cs:Array Value} {l:List D} {F:Nat->Prop} (Fs:Nat->Nat->Prop) (hs:cs.size=l.length) (hr:∀j x,l[j]?=some x->af w A (cs.getD j undef) x (Fs j))
   (hfs:∀j c,Fs j c->F c) (hdis:∀i j c,i≠j->Fs i c->¬Fs j c):af w A (.tuple cs) (.au l) F
 | ptr {b:Nat} {l:List D} {cs:Array Value} {e:TypeId} {F:Nat->Prop} (Fs:Nat->Nat->Prop) (hb:w.heap[b]?=some (.cells cs e (0,0))) (hs:cs.size=l.length)
   (hr:∀j x,l[j]?=some x->af w A (cs.getD j undef) x (Fs j)) (hF:F b)
   (hfs:∀j c,Fs j c->c≠b/\F c) (hdis:∀i j c,i≠j->Fs i c->¬Fs j c):af w A (.pointer (some ⟨b,0,none⟩)) (.ptr l) F
theorem getD_some{cs:Array Value}{j:Nat}(h:j<cs.size):cs[j]?=some (cs.getD j undef):=by
 simp[h]
theorem cN{w:World}{b j:Nat}{cs:Array Value}{e:TypeId}{fz:Nat×Nat}(hb:w.heap[b]?=some (.cells cs e fz))(h:j<cs.size):w.cell? ⟨b,j,none⟩=some (cs.getD j undef):=by
 simp[World.cell?,hb,h]
theorem af.rd{w:World}{A A':Nat->Prop}{v:Value}{d:D}{F:Nat->Prop}(h:af w A v d F):(∀b,A b->A' b)->(∀b,F b->A' b)->Rd w A' v d:=by
 induction h with
 | int h=>exact fun _ _=>.int h
 | bool=>exact fun _ _=>.bool
 | str h=>exact fun _ _=>.str h
 | nil=>exact fun _ _=>.nil
 | aF=>exact fun _ _=>.aF
 | fn=>exact fun _ _=>.fn rfl (fun j x hx=>by simp at hx)
 | vw h=>exact fun hA _=>.vw (h.mono hA fun _ _=>rfl)
 | dead=>exact fun _ _=>.dead
 | mp hF hb hE=>exact fun _ hA'=>.mp (hA' _ hF) hb hE
 | bw=>exact fun _ _=>.bw
 | bq h=>exact fun hA _=>.bq (h.mono hA fun _ _=>rfl)
 | bl=>exact fun _ _=>.bl
 | bE hF hb hs=>exact fun _ hA'=>.bE (hA' _ hF) hb hs
 | @slice z L b off cap sz cs e fz F Fs hb hroom hc hm hz hzz hsz hr hF hfs hdis ih =>
  intro hA hA';refine .slice (hA' _ hF) hc hm hz hzz hsz (fun j=>cs.getD (off+j) undef) (fun j x hx=>?_) (fun j x hx=>ih j x hx hA fun c hc'=>hA' c (hfs j c hc').2);have hj:=jz hz hx;have h1:L.length*sz<=cap*sz:=Nat.mul_le_mul_right _ hc;exact cN hb (by omega)
 | agg Fs hs _ hfs hdis ih=>exact fun hA hA'=>.agg hs fun j x hx=>ih j x hx hA fun c hc=>hA' c (hfs j c hc)
 | au Fs hs _ hfs hdis ih=>exact fun hA hA'=>.au hs fun j x hx=>ih j x hx hA fun c hc=>hA' c (hfs j c hc)
 | @ptr b l cs e F Fs hb hs hr hF hfs hdis ih =>
  intro hA hA';refine .ptr (hA' _ hF) (fun j=>cs.getD j undef) (fun j x hx=>?_) (fun j x hx=>ih j x hx hA fun c hc'=>hA' c (hfs j c hc').2);have hj:=(List.getElem?_eq_some_iff.1 hx).1;rw[Nat.zero_add];exact cN hb (by omega)
theorem af.mono{w w':World}{A A':Nat->Prop}{v:Value}{d:D}{F:Nat->Prop}(h:af w A v d F) :
  ∀{F':Nat->Prop},(∀b,A b->A' b)->(∀b,A b->w'.heap[b]?=w.heap[b]?)->(∀b,F b->w'.heap[b]?=w.heap[b]?)->(∀b,F b->F' b)->af w' A' v d F':=by
 induction h with
 | int h=>exact fun _ _ _ _=>.int h
 | bool=>exact fun _ _ _ _=>.bool
 | str h=>exact fun _ _ _ _=>.str h
 | nil=>exact fun _ _ _ _=>.nil
 | aF=>exact fun _ _ _ _=>.aF
 | fn=>exact fun _ _ _ _=>.fn
 | vw h=>exact fun hA hw _ _=>.vw (h.mono hA hw)
 | dead=>exact fun _ _ _ _=>.dead
 | mp hF hb hE=>exact fun _ _ hw hFF=>.mp (hFF _ hF) (by rw[hw _ hF];exact hb) hE
 | bw=>exact fun _ _ _ _=>.bw
 | bq h=>exact fun hA hw _ _=>.bq (h.mono hA hw)
 | bl=>exact fun _ _ _ _=>.bl
 | bE hF hb hs=>exact fun _ _ hw hFF=>.bE (hFF _ hF) (by rw[hw _ hF];exact hb) hs
 | slice Fs hb hroom hc hm hz hzz hsz _ hF hfs hdis ih =>
  exact fun hA hwA hw hFF=>.slice Fs (by rw[hw _ hF];exact hb) hroom hc hm hz hzz hsz (fun j x hx=>ih j x hx hA hwA (fun c hc'=>hw c (hfs j c hc').2) fun c hc'=>hc') (hFF _ hF) (fun j c hc'=>⟨(hfs j c hc').1,hFF _ (hfs j c hc').2⟩) hdis
 | agg Fs hs _ hfs hdis ih =>
  exact fun hA hwA hw hFF=>.agg Fs hs (fun j x hx=>ih j x hx hA hwA (fun c hc'=>hw c (hfs j c hc')) fun c hc'=>hc') (fun j c hc'=>hFF _ (hfs j c hc')) hdis
 | au Fs hs _ hfs hdis ih =>
  exact fun hA hwA hw hFF=>.au Fs hs (fun j x hx=>ih j x hx hA hwA (fun c hc'=>hw c (hfs j c hc')) fun c hc'=>hc') (fun j c hc'=>hFF _ (hfs j c hc')) hdis
 | ptr Fs hb hs _ hF hfs hdis ih =>
  exact fun hA hwA hw hFF=>.ptr Fs (by rw[hw _ hF];exact hb) hs (fun j x hx=>ih j x hx hA hwA (fun c hc'=>hw c (hfs j c hc').2) fun c hc'=>hc') (hFF _ hF) (fun j c hc'=>⟨(hfs j c hc').1,hFF _ (hfs j c hc').2⟩) hdis
def D.un:D->D
 | .o d=>d
 | d=>d
def D.db:D->Nat->Nat->D
 | .slice z l,i,off=>(l.getD i z).cells.getD off .dead
 | .row z l,i,off=>(l.getD i z).cells.getD off .dead
 | .ptr l,_,off=>l.getD off .dead
 | .box l,_,off=>l.getD off .dead
 | .agg l,_,off=>l.getD off .dead
 | .au l,_,off=>l.getD off .dead
 | _,_,_=>.dead
def D.aS(x:D)(i off:Nat):D:=x.un.db i off
def iw(e y:D):Prop:=e.isAgg=true\/y.isAgg=false
def dC(e:D)(off:Nat)(y:D):D :=
 match e with
 | .agg l=>.agg (l.set off y)
 | _=>y
def D.cK:D->Nat->Nat->D->D
 | .slice z l,i,off,y=>.slice z (l.set i (dC (l.getD i z) off y))
 | .row z l,i,off,y=>.row z (l.set i (dC (l.getD i z) off y))
 | .ptr l,_,off,y=>.ptr (l.set off y)
 | .box l,_,off,y=>.box (l.set off y)
 | .agg l,_,off,y=>.agg (l.set off y)
 | .au l,_,off,y=>.au (l.set off y)
 | d,_,_,_=>d
def D.fY:D->Nat->D->Prop
 | .slice z l,i,y=>iw (l.getD i z) y
 | .row z l,i,y=>iw (l.getD i z) y
 | _,_,_=>True
def D.eS(x:D)(i off:Nat)(y:D):D :=
 match x with
 | .o d=>.o (d.cK i off y)
 | d=>d.cK i off y
def D.dQ:D->Nat->Nat->Prop
 | .slice z l,i,off=>i<l.length/\off<z.cells.length
 | .row z l,i,off=>i<l.length/\off<z.cells.length
 | .ptr l,i,off=>i=0/\off<l.length
 | .box l,i,off=>i=0/\off<l.length
 | .agg l,i,off=>i=0/\off<l.length
 | .au l,i,off=>i=0/\off<l.length
 | _,_,_=>False
def D.iS(x:D)(i off:Nat):Prop:=x.un.dQ i off
def D.at(x:D):Path->D
 | []=>x
 | (i,off)::p=>(x.aS i off).at p
def D.setAt(x:D):Path->D->D
 | [],y=>y
 | (i,off)::p,y=>x.eS i off ((x.aS i off).setAt p y)
def D.has(x:D):Path->Prop
 | []=>True
 | (i,off)::p=>x.iS i off/\(x.aS i off).has p
def da(v:Value):D->Nat->Nat->Option Addr
 | .slice z _,i,off=>match v with
  | .slice (some a) _ _=>some ⟨a.block,a.off+(i*z.cells.length+off),none⟩
  | _=>none
 | .row z _,i,off=>match v with
  | .slice (some a) _ _=>some ⟨a.block,a.off+(i*z.cells.length+off),none⟩
  | _=>none
 | .ptr _,_,off=>match v with
  | .pointer (some a)=>some ⟨a.block,a.off+off,none⟩
  | _=>none
 | .box _,_,off=>match v with
  | .pointer (some a)=>some ⟨a.block,a.off+off,none⟩
  | _=>none
 | _,_,_=>none
def cT(v:Value)(x:D)(i off:Nat):Option Addr:=da v x.un i off
def jM(w:World)(v:Value):D->Nat->Nat->Option Value
 | .agg _,_,off=>match v with
  | .agg cs=>some (cs.getD off undef)
  | _=>none
 | .au _,_,off=>match v with
  | .tuple cs=>some (cs.getD off undef)
  | _=>none
 | x,i,off=>(da v x i off).bind w.cell?
def bU(w:World)(v:Value)(x:D)(i off:Nat):Option Value:=jM w v x.un i off
def aE(w:World)(v:Value)(x:D):Path->Option Value
 | []=>some v
 | (i,off)::p=>(bU w v x i off).bind fun u=>aE w u (x.aS i off) p
def ay(w:World)(v:Value)(x:D):Path->Option Addr
 | []=>none
 | [(i,off)]=>cT v x i off
 | (i,off)::p=>(bU w v x i off).bind fun u=>ay w u (x.aS i off) p
theorem z6{z:D}{L:List D}{sz i off:Nat}(hz:z.cells.length=sz)(hsz:∀x∈L,x.cells.length=sz)(hi:i<L.length)(ho:off<sz) :
  cellAt L sz (i*sz+off)=some ((D.slice z L).db i off):=by
 have hpos : 0<sz:=by omega
 have e1:(i*sz+off) / sz=i:=by
  rw[Nat.mul_comm,Nat.mul_add_div hpos,Nat.div_eq_of_lt ho];omega
 have e2:(i*sz+off) % sz=off:=by
  rw[Nat.mul_comm,Nat.mul_add_mod,Nat.mod_eq_of_lt ho]
 have hl:=hsz L[i] (List.getElem_mem hi);simp only[cellAt,e1,e2,D.db,List.getElem?_eq_getElem hi,Option.bind_some];simp only[List.getD_eq_getElem?_getD,List.getElem?_eq_getElem hi,Option.getD_some];rw[List.getElem?_eq_getElem (by omega)];rfl
theorem ti{e y:D}{off:Nat}(hy:iw e y)(ho:off<e.cells.length):(dC e off y).cells=e.cells.set off y:=by
 cases e
 case agg l=>rfl
 all_goals
  simp only[D.cells,List.length_cons,List.length_nil] at ho;have:off=0:=by omega
  subst this;simp only[dC,D.cells_one (hy.resolve_left (by simp[D.isAgg]))];rfl
theorem GD{z:D}{L:List D}{sz i off j:Nat}{y:D}(hzz:z.cells.length=sz)(hsz:∀x∈L,x.cells.length=sz)(hy:iw (L.getD i z) y)(hi:i<L.length)(ho:off<sz) :
  cellAt (L.set i (dC (L.getD i z) off y)) sz j=if j=i*sz+off then some y else cellAt L sz j:=by
 have hpos : 0<sz:=by omega
 have hLi:L.getD i z=L[i]:=by rw[List.getD_eq_getElem?_getD,List.getElem?_eq_getElem hi];rfl
 have hl:=hsz L[i] (List.getElem_mem hi);unfold cellAt;by_cases hji:j / sz=i
 ·have hj:j=i*sz+j % sz:=by
   have:=Nat.div_add_mod j sz;rw[hji,Nat.mul_comm] at this;omega
  rw[hji,List.getElem?_set_self hi,Option.bind_some,ti hy (by rw[hLi];omega),hLi,List.getElem?_eq_getElem hi,Option.bind_some];have hm:=Nat.mod_lt j hpos;by_cases h2:j % sz=off
  ·rw[if_pos (by omega),h2,List.getElem?_set_self (by omega)]
  ·rw[if_neg (by omega),List.getElem?_set_ne (Ne.symm h2)]
 ·rw[List.getElem?_set_ne (Ne.symm hji)]
  rw[if_neg];rintro rfl;apply hji;rw[Nat.mul_comm,Nat.mul_add_div hpos,Nat.div_eq_of_lt ho];omega
theorem NY{z:D}{L:List D}{sz i off:Nat}{y:D}(hsz:∀x∈L,x.cells.length=sz)(hy:iw (L.getD i z) y)(hi:i<L.length)(ho:off<sz) :
  ∀x∈L.set i (dC (L.getD i z) off y),x.cells.length=sz:=by
 intro x hx;have hLi:L.getD i z=L[i]:=by rw[List.getD_eq_getElem?_getD,List.getElem?_eq_getElem hi];rfl
 have hl:=hsz L[i] (List.getElem_mem hi);rcases List.mem_or_eq_of_mem_set hx with h | h
 ·exact hsz x h
 ·rw[h,ti hy (by rw[hLi];omega),List.length_set,hLi,hl]
mutual
def D.strip:D->D
 | .vw d=>(match d.strip with | .agg l=>.vw (.agg l) | d'=>d')
 | .slice z l=>.slice z.strip (stripL l)
 | .agg l=>.agg (stripL l)
 | .au l=>.au (stripL l)
 | .ptr l=>.ptr (stripL l)
 | .aM z=>.slice z []
 | d=>d
def stripL:List D->List D
 | []=>[]
 | x::r=>x.strip::stripL r
end
theorem oG:∀{l:List D},stripL l=l.map D.strip
 | []=>rfl
 | x::r=>by rw[stripL,oG];rfl
theorem qB{l:List D}:(stripL l).length=l.length:=by rw[oG,List.length_map]
theorem oF{l:List D}{j:Nat}{x:D}(h:(stripL l)[j]?=some x):∃y,l[j]?=some y/\x=y.strip:=by
 rw[oG,List.getElem?_map,Option.map_eq_some_iff] at h;obtain⟨y,h1,h2⟩:=h;exact⟨y,h1,h2.symm⟩
theorem xG{d:D}:d.strip.cells=d.cells.map D.strip:=by
 cases d
 case agg l=>show stripL l=_;rw[oG];rfl
 case vw d =>
  show(match d.strip with | .agg l=>D.vw (.agg l) | d'=>d').cells=[match d.strip with | .agg l=>D.vw (.agg l) | d'=>d'];cases d.strip<;>rfl
 all_goals rfl
theorem Aa{L:List D}{sz j:Nat}{x:D}(h:cellAt (stripL L) sz j=some x):∃y,cellAt L sz j=some y/\x=y.strip:=by
 unfold cellAt at h|-
 rw[Option.bind_eq_some_iff] at h;obtain⟨e,h1,h2⟩:=h;obtain⟨e',h3,rfl⟩:=oF h1;rw[xG,List.getElem?_map,Option.map_eq_some_iff] at h2;obtain⟨y,h4,h5⟩:=h2;exact⟨y,by rw[h3];exact h4,h5.symm⟩
theorem Rd.strip{w:World}{A:Nat->Prop}{v:Value}{d:D}(h:Rd w A v d):Rd w A v d.strip:=by
 induction h with
 | int h=>exact .int h
 | bool=>exact .bool
 | str h=>exact .str h
 | nil=>exact .nil
 | empty h=>exact .empty h
 | @slice z L b off cap sz hA hc hm hz hzz hsz vs hcells _ ih =>
  have:=Rd.slice (w:=w) (A:=A) (z:=z.strip) (L:=stripL L) (off:=off) (sz:=sz) hA (by rw[qB];exact hc) hm hz (by rw[xG,List.length_map];exact hzz) (fun x hx=>by
   rw[oG,List.mem_map] at hx;obtain⟨y,hy,rfl⟩:=hx
   rw[xG,List.length_map];exact hsz y hy) vs (fun j x hx=>by obtain⟨y,hy,rfl⟩:=Aa hx;exact hcells j y hy) (fun j x hx=>by obtain⟨y,hy,rfl⟩:=Aa hx;exact ih j y hy)
  rwa [qB] at this
 | agg hs _ ih=>exact .agg (by rw[qB];exact hs) fun j x hx=>by obtain⟨y,hy,rfl⟩:=oF hx;exact ih j y hy
 | au hs _ ih=>exact .au (by rw[qB];exact hs) fun j x hx=>by obtain⟨y,hy,rfl⟩:=oF hx;exact ih j y hy
 | ptr hAb vs hcells _ ih=>exact .ptr hAb vs (fun j x hx=>by obtain⟨y,hy,rfl⟩:=oF hx;exact hcells j y hy) fun j x hx=>by obtain⟨y,hy,rfl⟩:=oF hx;exact ih j y hy
 | aF=>exact .aF
 | fn hs hr _=>exact .fn hs hr
 | @vw v d _ ih =>
  show Rd w A v (match d.strip with | .agg l=>D.vw (.agg l) | d'=>d');generalize d.strip=e at ih;cases e<;>first | exact ih | exact .vw ih
 | o h _=>exact .o h
 | aM=>exact .nil
 | dead=>exact .dead
 | mp hAr hb hE=>exact .mp hAr hb hE
 | bw=>exact .bw
 | bq h _=>exact .bq h
 | bl=>exact .bl
 | bE hAr hb hs=>exact .bE hAr hb hs
 | fv hAn hc=>exact .fv hAn hc
end Go.D3
namespace Go.D3
open Go
def gl:Nat->Option D:=fun _=>none
def ck(w:World)(A:Nat->Prop):Prop:=∀(g:Nat)(d:D),gl g=some d->Rd w A (.pointer (some ⟨g,0,none⟩)) d
theorem ck.gl{w:World}{A:Nat->Prop}(h:ck w A)(g:Nat)(d:D)(hd:gl g=some d):Rd w A (.pointer (some ⟨g,0,none⟩)) d:=h g d hd
theorem Hq(w:World)(A:Nat->Prop):ck w A:=fun _ _ h=>by cases h
theorem ck.mono{w w':World}{A A':Nat->Prop}(h:ck w A)(hA:∀b,A b->A' b)(hw:∀b,A b->w'.heap[b]?=w.heap[b]?):ck w' A':=fun g d hd=>(h g d hd).mono hA hw
end Go.D3
namespace Go.D3
open Go
theorem xo{w:World}{b j:Nat}{cs:Array Value}{e:TypeId}{fz:Nat×Nat}(u:Value)(hb:w.heap[b]?=some (.cells cs e fz)) :
  (w.setCell ⟨b,j,none⟩ u).heap[b]?=some (.cells (cs.setIfInBounds j u) e fz):=by
 simp[World.setCell,Array.getElem?_modify,hb]
theorem xp{w:World}{a:Addr}{c:Nat}(u:Value)(h:c≠a.block):(w.setCell a u).heap[c]?=w.heap[c]?:=by
 simp only[World.setCell,Array.getElem?_modify];rw[if_neg (Ne.symm h)]
theorem kO{cs:Array Value}{j:Nat}(u:Value)(h:j<cs.size):(cs.setIfInBounds j u).getD j undef=u:=by
 simp[h]
theorem getD_set_ne{cs:Array Value}{i j:Nat}(u:Value)(h:i≠j):(cs.setIfInBounds i u).getD j undef=cs.getD j undef:=by
 simp[Array.getElem?_setIfInBounds_ne h]
theorem af.split{w:World}{A:Nat->Prop}{v:Value}{x:D}{F:Nat->Prop}(h:af w A v x F){i off:Nat}(hk:x.dQ i off) :
  ∃(u:Value)(F1 F2:Nat->Prop),jM w v x i off=some u/\af w A u (x.db i off) F1/\(∀b,F1 b->F b)/\(∀b,F2 b->F b)/\(∀b,F1 b->¬F2 b) /\
   (∀(w':World)(A':Nat->Prop)(y:D)(F1' F':Nat->Prop),(∀b,A b->A' b)->(∀b,A b->w'.heap[b]?=w.heap[b]?)->(∀b,F2 b->w'.heap[b]?=w.heap[b]?)->af w' A' u y F1'->(∀b,F1' b->¬F2 b) ->
     x.fY i y->(∀b,F1' b->F' b)->(∀b,F2 b->F' b)->af w' A' v (x.cK i off y) F') /\
   (∀a,da v x i off=some a->F2 a.block/\a.spot=none/\w.cell? a=some u/\w.frozen? a=false /\
     ∀(u':Value)(w':World)(A':Nat->Prop)(y:D)(F1' F':Nat->Prop),(∀b,A b->A' b)->(∀b,A b->w'.heap[b]?=w.heap[b]?)->(∀b,F2 b->b≠a.block->w'.heap[b]?=w.heap[b]?) ->
      w'.heap[a.block]?=(w.setCell a u').heap[a.block]?->af w' A' u' y F1'->(∀b,F1' b->¬F2 b) ->
      x.fY i y->(∀b,F1' b->F' b)->(∀b,F2 b->F' b)->af w' A' v (x.cK i off y) F'):=by
 cases h with
 | int _ | bool | str _ | aF | fn | vw _ | dead | mp _ _ _ | bw | bq _ | bl | bE _ _ _=>exact hk.elim
 | nil=>simp[D.dQ] at hk
 | @slice z L b o cap sz cs e fz F Fs hb hroom hc hm hz hzz hsz hr hF hfs hdis =>
  obtain⟨hi,ho⟩:=hk;rw[hzz] at ho;have hcell:=z6 hzz hsz hi ho;have hj:i*sz+off<L.length*sz:=jz hz hcell;have hcap:L.length*sz<=cap*sz:=Nat.mul_le_mul_right _ hc;have hsize:o+(i*sz+off)<cs.size:=by omega
  have hset:∀(w':World)(A':Nat->Prop)(y:D)(F1' F':Nat->Prop)(cs':Array Value),(∀b,A b->A' b)->(∀b,A b->w'.heap[b]?=w.heap[b]?) ->
    (∀c,(c=b\/∃j,j≠i*sz+off/\Fs j c)->c≠b->w'.heap[c]?=w.heap[c]?)->w'.heap[b]?=some (.cells cs' e fz)->cs'.size=cs.size->(∀j,j≠i*sz+off->cs'.getD (o+j) undef=cs.getD (o+j) undef) ->
    af w' A' (cs'.getD (o+(i*sz+off)) undef) y F1'->(∀c,F1' c->¬(c=b\/∃j,j≠i*sz+off/\Fs j c)) ->
    iw (L.getD i z) y->(∀b,F1' b->F' b)->(∀c,(c=b\/∃j,j≠i*sz+off/\Fs j c)->F' c)->af w' A' (.slice (some ⟨b,o,none⟩) L.length cap) ((D.slice z L).cK i off y) F':=by
   intro w' A' y F1' F' cs' hA hwA hw hb' hsz' hcs hy hd hag h1 h2
   have key:=af.slice (w:=w') (A:=A') (z:=z) (L:=L.set i (dC (L.getD i z) off y)) (b:=b) (off:=o) (cap:=cap) (sz:=sz) (cs:=cs') (e:=e) (F:=F')
    (fun j c=>if j=i*sz+off then F1' c else Fs j c) hb' (by omega) (by simpa using hc) hm hz hzz (NY hsz hag hi ho)
    (fun j x hx=>by
      rw[GD hzz hsz hag hi ho] at hx;by_cases hji:j=i*sz+off
      ·rw[if_pos hji] at hx
       injection hx with hx
       subst hx;subst hji;simpa using hy
      ·rw[if_neg hji] at hx
       simp only[if_neg hji,hcs j hji]
       exact(hr j x hx).mono hA hwA (fun c hc'=>hw c (.inr ⟨j,hji,hc'⟩) (hfs j c hc').1) fun _ h=>h)
    (h2 b (.inl rfl))
    (fun j c hj'=>by
      split at hj'
      ·exact⟨fun hcb=>hd c hj' (.inl hcb),h1 c hj'⟩
      ·rename_i hji
       exact⟨(hfs j c hj').1,h2 c (.inr ⟨j,hji,hj'⟩)⟩)
    (fun p q c hpq hp hq=>by
      split at hp<;>split at hq
      ·omega
      ·rename_i hq';exact hd c hp (.inr ⟨q,hq',hq⟩)
      ·rename_i hp' _;exact hd c hq (.inr ⟨p,hp',hp⟩)
      ·exact hdis p q c hpq hp hq)
   rw[List.length_set] at key;exact key
  refine⟨cs.getD (o+(i*sz+off)) undef,Fs (i*sz+off),(fun c=>c=b\/∃j,j≠i*sz+off/\Fs j c),?_,hr _ _ hcell,fun c hc'=>(hfs _ c hc').2,?_,?_,?_,?_⟩
  ·simp only[jM,da,hzz,Option.bind_some]
   exact cN hb hsize
  ·rintro c (rfl | ⟨j,_,hj'⟩)
   ·exact hF
   ·exact(hfs j c hj').2
  ·rintro c hc' (rfl | ⟨j,hne,hj'⟩)
   ·exact(hfs _ c hc').1 rfl
   ·exact hdis _ _ c (Ne.symm hne) hc' hj'
  ·intro w' A' y F1' F' hA hwA hw hy hd hag h1 h2
   exact hset w' A' y F1' F' cs hA hwA (fun c hc' _=>hw c hc') (by rw[hw b (.inl rfl)];exact hb) rfl (fun _ _=>rfl) hy hd hag h1 h2
  ·intro a ha
   simp only[da,hzz,Option.some.injEq] at ha;subst ha;refine⟨.inl rfl,rfl,cN hb hsize,by simp[World.frozen?,hb];omega,fun u' w' A' y F1' F' hA hwA hw hwb hy hd hag h1 h2=>?_⟩;refine hset w' A' y F1' F' (cs.setIfInBounds (o+(i*sz+off)) u') hA hwA hw (hwb.trans (xo u' hb)) (by simp) (fun j hj'=>getD_set_ne _ (by omega)) ?_ hd hag h1 h2;rw[kO _ hsize];exact hy
 | @agg cs l F Fs hs hr hfs hdis =>
  obtain⟨rfl,ho⟩:=hk;refine⟨cs.getD off undef,Fs off,(fun c=>∃j,j≠off/\Fs j c),rfl,?_,fun c hc=>hfs _ c hc,fun c ⟨j,_,hj⟩=>hfs j c hj,fun c hc ⟨j,hne,hj⟩=>hdis _ _ c (Ne.symm hne) hc hj,?_,?_⟩
  ·refine hr off _ ?_
   simp only[D.db,List.getD_eq_getElem?_getD,List.getElem?_eq_getElem ho,Option.getD_some]
  ·intro w' A' y F1' F' hA hwA hw hy hd hag h1 h2
   refine .agg (fun j c=>if j=off then F1' c else Fs j c) (by simpa using hs) (fun j x hx=>?_) (fun j c hj=>?_) (fun p q c hpq hp hq=>?_)
   ·by_cases hj:j=off
    ·subst hj
     rw[List.getElem?_set_self ho] at hx;injection hx with hx
     subst hx;simpa using hy
    ·rw[List.getElem?_set_ne (Ne.symm hj)] at hx
     simp only[if_neg hj];exact(hr j x hx).mono hA hwA (fun c hc=>hw c ⟨j,hj,hc⟩) fun _ h=>h
   ·split at hj
    ·exact h1 c hj
    ·rename_i hne;exact h2 c ⟨j,hne,hj⟩
   ·split at hp<;>split at hq
    ·omega
    ·rename_i hq';exact hd c hp ⟨q,hq',hq⟩
    ·rename_i hp' _;exact hd c hq ⟨p,hp',hp⟩
    ·exact hdis p q c hpq hp hq
  ·intro a ha;simp[da] at ha
 | @au cs l F Fs hs hr hfs hdis =>
  obtain⟨rfl,ho⟩:=hk;refine⟨cs.getD off undef,Fs off,(fun c=>∃j,j≠off/\Fs j c),rfl,?_,fun c hc=>hfs _ c hc,fun c ⟨j,_,hj⟩=>hfs j c hj,fun c hc ⟨j,hne,hj⟩=>hdis _ _ c (Ne.symm hne) hc hj,?_,?_⟩
  ·refine hr off _ ?_
   simp only[D.db,List.getD_eq_getElem?_getD,List.getElem?_eq_getElem ho,Option.getD_some]
  ·intro w' A' y F1' F' hA hwA hw hy hd hag h1 h2
   refine .au (fun j c=>if j=off then F1' c else Fs j c) (by simpa using hs) (fun j x hx=>?_) (fun j c hj=>?_) (fun p q c hpq hp hq=>?_)
   ·by_cases hj:j=off
    ·subst hj
     rw[List.getElem?_set_self ho] at hx;injection hx with hx
     subst hx;simpa using hy
    ·rw[List.getElem?_set_ne (Ne.symm hj)] at hx
     simp only[if_neg hj];exact(hr j x hx).mono hA hwA (fun c hc=>hw c ⟨j,hj,hc⟩) fun _ h=>h
   ·split at hj
    ·exact h1 c hj
    ·rename_i hne;exact h2 c ⟨j,hne,hj⟩
   ·split at hp<;>split at hq
    ·omega
    ·rename_i hq';exact hd c hp ⟨q,hq',hq⟩
    ·rename_i hp' _;exact hd c hq ⟨p,hp',hp⟩
    ·exact hdis p q c hpq hp hq
  ·intro a ha;simp[da] at ha
 | @ptr b l cs e F Fs hb hs hr hF hfs hdis =>
  obtain⟨rfl,ho⟩:=hk
  have hset:∀(w':World)(A':Nat->Prop)(y:D)(F1' F':Nat->Prop)(cs':Array Value),(∀b,A b->A' b)->(∀b,A b->w'.heap[b]?=w.heap[b]?) ->
    (∀c,(c=b\/∃j,j≠off/\Fs j c)->c≠b->w'.heap[c]?=w.heap[c]?)->w'.heap[b]?=some (.cells cs' e (0,0))->cs'.size=cs.size->(∀j,j≠off->cs'.getD j undef=cs.getD j undef) ->
    af w' A' (cs'.getD off undef) y F1'->(∀c,F1' c->¬(c=b\/∃j,j≠off/\Fs j c)) ->
    (∀b,F1' b->F' b)->(∀c,(c=b\/∃j,j≠off/\Fs j c)->F' c)->af w' A' (.pointer (some ⟨b,0,none⟩)) ((D.ptr l).cK 0 off y) F':=by
   intro w' A' y F1' F' cs' hA hwA hw hb' hsz' hcs hy hd h1 h2;refine .ptr (fun j c=>if j=off then F1' c else Fs j c) hb' (by simpa[hsz'] using hs) (fun j x hx=>?_) (h2 b (.inl rfl)) (fun j c hj=>?_) (fun p q c hpq hp hq=>?_)
   ·by_cases hj:j=off
    ·subst hj
     rw[List.getElem?_set_self ho] at hx;injection hx with hx
     subst hx;simpa using hy
    ·rw[List.getElem?_set_ne (Ne.symm hj)] at hx
     simp only[if_neg hj,hcs j hj];exact(hr j x hx).mono hA hwA (fun c hc=>hw c (.inr ⟨j,hj,hc⟩) (hfs j c hc).1) fun _ h=>h
   ·split at hj
    ·exact⟨fun hcb=>hd c hj (.inl hcb),h1 c hj⟩
    ·rename_i hne;exact⟨(hfs j c hj).1,h2 c (.inr ⟨j,hne,hj⟩)⟩
   ·split at hp<;>split at hq
    ·omega
    ·rename_i hq';exact hd c hp (.inr ⟨q,hq',hq⟩)
    ·rename_i hp' _;exact hd c hq (.inr ⟨p,hp',hp⟩)
    ·exact hdis p q c hpq hp hq
  have hsize:off<cs.size:=by omega
  have hget:l[off]?=some ((D.ptr l).db 0 off):=by
   simp only[D.db,List.getD_eq_getElem?_getD,List.getElem?_eq_getElem ho,Option.getD_some]
  refine⟨cs.getD off undef,Fs off,(fun c=>c=b\/∃j,j≠off/\Fs j c),?_,hr _ _ hget,fun c hc=>(hfs _ c hc).2,?_,?_,?_,?_⟩
  ·simp only[jM,da,Option.bind_some,Nat.zero_add]
   exact cN hb hsize
  ·rintro c (rfl | ⟨j,_,hj⟩)
   ·exact hF
   ·exact(hfs j c hj).2
  ·rintro c hc (rfl | ⟨j,hne,hj⟩)
   ·exact(hfs _ c hc).1 rfl
   ·exact hdis _ _ c (Ne.symm hne) hc hj
  ·intro w' A' y F1' F' hA hwA hw hy hd hag h1 h2
   exact hset w' A' y F1' F' cs hA hwA (fun c hc _=>hw c hc) (by rw[hw b (.inl rfl)];exact hb) rfl (fun _ _=>rfl) hy hd h1 h2
  ·intro a ha
   simp only[da,Option.some.injEq,Nat.zero_add] at ha;subst ha;refine⟨.inl rfl,rfl,cN hb hsize,by simp[World.frozen?,hb],fun u' w' A' y F1' F' hA hwA hw hwb hy hd hag h1 h2=>?_⟩;refine hset w' A' y F1' F' (cs.setIfInBounds off u') hA hwA hw (hwb.trans (xo u' hb)) (by simp) (fun j hj=>getD_set_ne _ (Ne.symm hj)) ?_ hd h1 h2;rw[kO _ hsize];exact hy
theorem af.un{w:World}{A:Nat->Prop}{v:Value}{x:D}{F:Nat->Prop}(h:af w A v x F):x.un=x/\∀i off y,x.eS i off y=x.cK i off y:=by
 cases h<;>exact⟨rfl,fun _ _ _=>rfl⟩
theorem iZ{w:World}{A:Nat->Prop}{v:Value}{x:D}{F:Nat->Prop}(h:af w A v x F)(i off:Nat) :
  x.aS i off=x.db i off/\(x.iS i off↔x.dQ i off)/\cT v x i off=da v x i off/\bU w v x i off=jM w v x i off:=by
 obtain⟨h1,_⟩:=h.un;unfold D.aS D.iS cT bU;rw[h1];exact⟨rfl,Iff.rfl,rfl,rfl⟩
theorem NR(x:D)(i off:Nat)(y:D):(x.cK i off y).isAgg=x.isAgg:=by cases x<;>rfl
theorem vO{x:D}{i off:Nat}{y:D}(hk:x.dQ i off)(hz:∀z l,(x=.slice z l\/x=.row z l)->∀e∈l,e.cells.length=z.cells.length)(hy:y.isAgg=(x.db i off).isAgg):x.fY i y:=by
 have key:∀(z:D)(l:List D),(∀e∈l,e.cells.length=z.cells.length)->i<l.length->off<z.cells.length->y.isAgg=((l.getD i z).cells.getD off .dead).isAgg->iw (l.getD i z) y:=by
  intro z l hz' h1 h2 hy;have hLi:l.getD i z=l[i]:=by rw[List.getD_eq_getElem?_getD,List.getElem?_eq_getElem h1];rfl
  have hl:=hz' l[i] (List.getElem_mem h1);rw[<-hLi] at hl;generalize l.getD i z=e at hl hy|-
  by_cases he:e.isAgg=true
  ·exact .inl he
  ·refine .inr ?_
   have he':e.isAgg=false:=by simpa using he
   rw[hy,D.cells_one he'];rw[D.cells_one he'] at hl;simp only[List.length_cons,List.length_nil] at hl;have:off=0:=by omega
   subst this;exact he'
 cases x<;>try trivial
 ·exact key _ _ (hz _ _ (.inl rfl)) hk.1 hk.2 hy
 ·exact key _ _ (hz _ _ (.inr rfl)) hk.1 hk.2 hy
theorem af.lG{w:World}{A:Nat->Prop}{v:Value}{x:D}{F:Nat->Prop}(h:af w A v x F):∀z l,(x=.slice z l\/x=.row z l)->∀e∈l,e.cells.length=z.cells.length:=by
 intro z l hx e he;cases h with
 | slice Fs hb hroom hc hm hz hzz hsz hr hF hfs hdis =>
  rcases hx with hx | hx<;>cases hx;rw[hzz];exact hsz e he
 | nil=>rcases hx with hx | hx<;>cases hx;cases he
 | _=>rcases hx with hx | hx<;>cases hx
theorem xm{x:D}{p:Path}(hp:p≠[])(y:D)(hx:x.un=x):(x.setAt p y).isAgg=x.isAgg:=by
 cases p with
 | nil=>exact absurd rfl hp
 | cons s p =>
  obtain⟨i,off⟩:=s;simp only[D.setAt];cases x<;>simp only[D.un] at hx<;>first | rfl | (simp only[D.eS];exact NR _ _ _ _)
def de(x:D):Path->D->Prop
 | [],_=>True
 | [(i,_)],y=>x.un.fY i y
 | (i,off)::p,y=>de (x.aS i off) p y
theorem af.splitAt{w:World}{A:Nat->Prop}:∀(p:Path){v:Value}{x:D}{F:Nat->Prop},af w A v x F->x.has p ->
  ∃(u:Value)(F1 F2:Nat->Prop),aE w v x p=some u/\af w A u (x.at p) F1/\(∀b,F1 b->F b)/\(∀b,F2 b->F b)/\(∀b,F1 b->¬F2 b) /\
   (∀(w':World)(A':Nat->Prop)(y:D)(F1' F':Nat->Prop),(∀b,A b->A' b)->(∀b,A b->w'.heap[b]?=w.heap[b]?)->(∀b,F2 b->w'.heap[b]?=w.heap[b]?)->af w' A' u y F1'->(∀b,F1' b->¬F2 b) ->
     de x p y->(∀b,F1' b->F' b)->(∀b,F2 b->F' b)->af w' A' v (x.setAt p y) F') /\
   (∀a,ay w v x p=some a->F2 a.block/\a.spot=none/\w.cell? a=some u/\w.frozen? a=false /\
     ∀(u':Value)(w':World)(A':Nat->Prop)(y:D)(F1' F':Nat->Prop),(∀b,A b->A' b)->(∀b,A b->w'.heap[b]?=w.heap[b]?)->(∀b,F2 b->b≠a.block->w'.heap[b]?=w.heap[b]?) ->
      w'.heap[a.block]?=(w.setCell a u').heap[a.block]?->af w' A' u' y F1'->(∀b,F1' b->¬F2 b) ->
      de x p y->(∀b,F1' b->F' b)->(∀b,F2 b->F' b)->af w' A' v (x.setAt p y) F')
 | [],v,x,F,h,_=>by
  refine⟨v,F,fun _=>False,rfl,h,fun _ h=>h,fun _ h=>h.elim,fun _ _ h=>h,?_,?_⟩
  ·intro w' A' y F1' F' _ _ _ hy _ _ h1 _
   exact hy.mono (fun _ h=>h) (fun _ _=>rfl) (fun _ _=>rfl) h1
  ·intro a ha;simp[ay] at ha
 | (i,off)::p,v,x,F,h,hp=>by
  obtain⟨hk,hp'⟩:=hp;obtain⟨e1,e2,e3,e4⟩:=iZ h i off;obtain⟨hu,hun⟩:=h.un;obtain⟨u,F1,F2,g1,g2,g3,g4,g5,g6,g7⟩:=h.split (e2.1 hk);rw[<-e1] at g2;obtain⟨u',G1,G2,i1,i2,i3,i4,i5,i6,i7⟩:=af.splitAt p g2 hp'
  have hok:∀y,de x ((i,off)::p) y->x.fY i ((x.aS i off).setAt p y)/\de (x.aS i off) p y:=by
   intro y hy;cases p with
   | nil=>simp only[de,hu] at hy;exact⟨hy,trivial⟩
   | cons s p =>
    obtain⟨i2',off2⟩:=s;refine⟨vO (e2.1 hk) h.lG ?_,hy⟩;rw[xm (by simp) y g2.un.1,e1]
  have hdisj:∀b,G1 b->¬(G2 b\/F2 b):=fun b hb hh=>hh.elim (i5 b hb) (g5 b (i3 b hb))
  refine⟨u',G1,fun b=>G2 b\/F2 b,?_,i2,fun b hb=>g3 b (i3 b hb),fun b hb=>hb.elim (fun h=>g3 b (i4 b h)) (g4 b),hdisj,?_,?_⟩
  ·simp only[aE,e4,g1,Option.bind_some];exact i1
  ·intro w' A' y F1' F' hA hwA hw hy hd hag h1 h2
   obtain⟨ok1,ok2⟩:=hok y hag;have hkid:=i6 w' A' y F1' (fun b=>F1' b\/G2 b) hA hwA (fun b hb=>hw b (.inl hb)) hy (fun b hb hg=>hd b hb (.inl hg)) ok2 (fun _ h=>.inl h) (fun _ h=>.inr h);simp only[D.setAt,hun]
   exact g6 w' A' _ _ F' hA hwA (fun b hb=>hw b (.inr hb)) hkid (fun b hb hf=>hb.elim (fun h=>hd b h (.inr hf)) fun h=>g5 b (i4 b h) hf) ok1
    (fun b hb=>hb.elim (h1 b) fun h=>h2 b (.inl h)) (fun b hb=>h2 b (.inr hb))
  ·intro a ha
   cases p with
   | nil =>
    simp only[ay,e3] at ha;obtain⟨j1,j2,j3,j3',j4⟩:=g7 a ha;simp only[aE,Option.some.injEq] at i1;subst i1;refine⟨.inr j1,j2,j3,j3',fun u' w' A' y F1' F' hA hwA hw hwb hy hd hag h1 h2=>?_⟩;simp only[D.setAt,hun];exact j4 u' w' A' y F1' F' hA hwA (fun b hb hne=>hw b (.inr hb) hne) hwb hy (fun b hb hf=>hd b hb (.inr hf)) (hok y hag).1 h1 (fun b hb=>h2 b (.inr hb))
   | cons s p =>
    have ha':ay w u (x.aS i off) (s::p)=some a:=by
     obtain⟨i',off'⟩:=s;cases p<;>simpa only[ay,e4,g1,Option.bind_some] using ha
    obtain⟨j1,j2,j3,j3',j4⟩:=i7 a ha';refine⟨.inl j1,j2,j3,j3',fun u'' w' A' y F1' F' hA hwA hw hwb hy hd hag h1 h2=>?_⟩;obtain⟨ok1,ok2⟩:=hok y hag;have hkid:=j4 u'' w' A' y F1' (fun b=>F1' b\/G2 b) hA hwA (fun b hb hne=>hw b (.inl hb) hne) hwb hy (fun b hb hg=>hd b hb (.inl hg)) ok2 (fun _ h=>.inl h) (fun _ h=>.inr h);simp only[D.setAt,hun]
    exact g6 w' A' _ _ F' hA hwA (fun b hb=>hw b (.inr hb) (by rintro rfl;exact g5 _ (i4 _ j1) hb)) hkid (fun b hb hf=>hb.elim (fun h=>hd b h (.inr hf)) fun h=>g5 b (i4 b h) hf) ok1
     (fun b hb=>hb.elim (h1 b) fun h=>h2 b (.inl h)) (fun b hb=>h2 b (.inr hb))
end Go.D3
namespace Go.D3
open Go
def D.isObj:D->Bool
 | .o _ | .box _ | .row _ _=>true
 | _=>false
def D.aR:D->Path->Prop
 | .o x,p=>x.has p
 | .box _,[]=>True
 | .box l,(i,off)::p=>i=0/\off<l.length/\match p with
  | []=>True
  | s::p=>match l.getD off .dead with
   | .o y=>y.has (s::p)
   | _=>False
 | .row _ _,p=>p=[]
 | _,_=>False
def bc:D->Path->Bool
 | .box _,[_]=>true
 | _,_=>false
def D.fU:D->Bool
 | .o _=>true
 | _=>false
def D.c8(c:D)(p:Path):Prop:=c.aR p/\(bc c p=true->(c.at p).fU=true)
def lR(w:World)(ct:Nat->D)(vl:Nat->Value)(v:Value)(k:Nat)(p:Path):Prop :=
 (ct k).aR p/\∃a,ay w (vl k) (ct k) p=some a/\v=.pointer (some a)
def Ml(v:Value):Prop:=(∃q n c,v=.slice q n c)\/∃r,v=.map r
def aa(w:World)(ct:Nat->D)(vl:Nat->Value)(v:Value):D->Prop
 | .sub k p=>(ct k).c8 p/\aE w (vl k) (ct k) p=some v/\Ml v
 | .aq k p=>lR w ct vl v k p
 | .pre k p n=>∃q m c,((ct k).c8 p/\aE w (vl k) (ct k) p=some (.slice q m c))/\n<=m/\v=.slice q n c
 | _=>False
inductive Pl(w:World)(A:Nat->Prop)(R:Value->D->Prop):Value->D->Prop
 | rd {v:Value} {d:D} (h:Rd w A v d):Pl w A R v d
 | ref {v:Value} {d:D} (h:R v d):Pl w A R v d
 | agg {cs:Array Value} {l:List D} (hs:cs.size=l.length) (hr:∀j x,l[j]?=some x->Pl w A R (cs.getD j undef) x):Pl w A R (.agg cs) (.agg l)
 | au {cs:Array Value} {l:List D} (hs:cs.size=l.length) (hr:∀j x,l[j]?=some x->Pl w A R (cs.getD j undef) x):Pl w A R (.tuple cs) (.au l)
 | fn {f:FuncId} {cs:Array Value} {l:List D} (hs:cs.size=l.length) (hr:∀j x,l[j]?=some x->Pl w A R (cs.getD j undef) x):Pl w A R (.func (.func f) #[] cs) (.fn f l)
def D.pc:D->Bool
 | .agg _ | .au _ | .box _ | .row _ _ | .when _ _ | .o _ | .vw _ | .pre _ _ _=>false
 | _=>true
def bG(w:World)(A:Nat->Prop)(R:Value->D->Prop)(v:Value)(F:Nat->Prop):D->Prop
 | .o x=>af w A v x F
 | .box _ | .row _ _ | .when _ _ | .agg _ | .au _ | .vw _ | .pre _ _ _=>False
 | c=>Pl w A R v c
def tL(w:World)(A:Nat->Prop)(R:Value->D->Prop)(v:Value)(F:Nat->Prop)(l:List D):Prop :=
 0<l.length/\∃(b:Nat)(cs:Array Value)(e:TypeId)(Fs:Nat->Nat->Prop),v=.pointer (some ⟨b,0,none⟩)/\w.heap[b]?=some (.cells cs e (0,0))/\cs.size=l.length /\
  (∀j c,l[j]?=some c->bG w A R (cs.getD j undef) (Fs j) c)/\F b/\(∀j c,Fs j c->c≠b/\F c)/\(∀i j c,i≠j->Fs i c->¬Fs j c)
def FI(w:World)(A:Nat->Prop)(R:Value->D->Prop)(v:Value)(F:Nat->Prop)(z:D)(l:List D):Prop :=
 ∃(b sz:Nat)(cs:Array Value)(e:TypeId),v=.slice (some ⟨b,0,none⟩) l.length l.length/\w.heap[b]?=some (.cells cs e (0,0))/\cs.size=l.length*sz/\l.length<=maxLen /\
  0<sz/\z.cells.length=sz/\(∀x∈l,x.cells.length=sz) /\
  (∀j c,cellAt l sz j=some c->Pl w A R (cs.getD j undef) c/\c.pc=true)/\F b
def az(w:World)(A:Nat->Prop)(R:Value->D->Prop)(v:Value)(F:Nat->Prop):D->Prop
 | .o x=>af w A v x F
 | .box l=>tL w A R v F l
 | .row z l=>FI w A R v F z l
 | .when g c=>(g=true->Pl w A R v c)/\(g=false->v=undef)
 | c=>Pl w A R v c
mutual
def D.refs(Q:D->Prop):D->Prop
 | .sub k p=>Q (.sub k p)
 | .aq k p=>Q (.aq k p)
 | .pre k p _=>Q (.sub k p)
 | .fn _ caps=>bD Q caps
 | .agg l=>bD Q l
 | .au l=>bD Q l
 | .box l=>bD Q l
 | .row _ l=>bD Q l
 | .when _ x=>x.refs Q
 | _=>True
def bD(Q:D->Prop):List D->Prop
 | []=>True
 | x::r=>x.refs Q/\bD Q r
end
mutual
def D.kill(q:D->Bool):D->D
 | .sub k p=>if q (.sub k p) then .dead else .sub k p
 | .aq k p=>if q (.aq k p) then .dead else .aq k p
 | .pre k p n=>if q (.sub k p) then .dead else .pre k p n
 | .fn f caps=>.fn f (dq q caps)
 | .agg l=>.agg (dq q l)
 | .au l=>.au (dq q l)
 | .box l=>.box (dq q l)
 | .row z l=>.row z (dq q l)
 | .when g x=>.when g (x.kill q)
 | x=>x
def dq(q:D->Bool):List D->List D
 | []=>[]
 | x::r=>x.kill q::dq q r
end
mutual
def D.ai(σ:Nat->Nat):D->D
 | .sub k p=>.sub (σ k) p
 | .aq k p=>.aq (σ k) p
 | .pre k p n=>.pre (σ k) p n
 | .fn f caps=>.fn f (cH σ caps)
 | .agg l=>.agg (cH σ l)
 | .au l=>.au (cH σ l)
 | .box l=>.box (cH σ l)
 | .row z l=>.row z (cH σ l)
 | .when g x=>.when g (x.ai σ)
 | x=>x
def cH(σ:Nat->Nat):List D->List D
 | []=>[]
 | x::r=>x.ai σ::cH σ r
end
theorem bf{Q:D->Prop}:∀{l:List D},bD Q l↔∀x∈l,x.refs Q
 | []=>by simp[bD]
 | x::r=>by simp only[bD,bf (l:=r),List.mem_cons,forall_eq_or_imp]
theorem c6(q:D->Bool):∀l,dq q l=l.map (D.kill q)
 | []=>rfl
 | x::r=>by rw[dq,c6 q r,List.map_cons]
theorem D.ind{M:D->Prop}(int:∀k n,M (.int k n))(bool:∀b,M (.bool b))(str:∀s,M (.str s))(slice:∀z l,M z->(∀x∈l,M x)->M (.slice z l))
  (agg:∀l,(∀x∈l,M x)->M (.agg l)) (au:∀l,(∀x∈l,M x)->M (.au l)) (ptr:∀l,(∀x∈l,M x)->M (.ptr l)) (aF:M .aF) (fn:∀f caps,(∀x∈caps,M x)->M (.fn f caps))
  (vw:∀x,M x->M (.vw x)) (o:∀x,M x->M (.o x)) (box:∀l,(∀x∈l,M x)->M (.box l)) (row:∀z l,M z->(∀x∈l,M x)->M (.row z l))
  (sub:∀k p,M (.sub k p)) (aq:∀k p,M (.aq k p)) (pre:∀k p n,M (.pre k p n)) (when:∀g x,M x->M (.when g x)) (aM:∀z,M z->M (.aM z)) (dead:M .dead)
  (mp:∀ks vs,(∀x∈ks,M x)->(∀x∈vs,M x)->M (.mp ks vs)) (bw:M .bw) (bq:∀t x,M x->M (.bq t x)) (bl:M .bl) (bE:∀s p,M (.bE s p)) (fv:∀n,M (.fv n)):∀d,M d:=fun d =>
 D.rec (motive_1:=M) (motive_2:=fun l=>∀x∈l,M x) int bool str slice agg au ptr aF fn vw o box row sub aq pre when aM dead mp bw bq bl bE fv (by simp) (fun x r hx hr=>by simp;exact⟨hx,hr⟩) d
section
variable{w w':World}{A A':Nat->Prop}{R R':Value->D->Prop}{v:Value}{F F':Nat->Prop}
theorem Pl.mono{Q:D->Prop}{c:D}(h:Pl w A R v c):(∀b,A b->A' b)->(∀b,A b->w'.heap[b]?=w.heap[b]?)->c.refs Q ->
  (∀v d,d.refs Q->R v d->R' v d)->Pl w' A' R' v c:=by
 induction h with
 | rd h=>exact fun hA hw _ _=>.rd (h.mono hA hw)
 | ref h=>exact fun _ _ hq hR=>.ref (hR _ _ hq h)
 | agg hs _ ih=>exact fun hA hw hq hR=>.agg hs fun j x hx=>ih j x hx hA hw (bf.1 hq x (List.mem_of_getElem? hx)) hR
 | au hs _ ih=>exact fun hA hw hq hR=>.au hs fun j x hx=>ih j x hx hA hw (bf.1 hq x (List.mem_of_getElem? hx)) hR
 | fn hs _ ih=>exact fun hA hw hq hR=>.fn hs fun j x hx=>ih j x hx hA hw (bf.1 hq x (List.mem_of_getElem? hx)) hR
theorem bG.mono{Q:D->Prop}{c:D}(h:bG w A R v F c)(hA:∀b,A b->A' b)(hwA:∀b,A b->w'.heap[b]?=w.heap[b]?)(hwF:∀b,F b->w'.heap[b]?=w.heap[b]?)(hF:∀b,F b->F' b)
  (hq:c.refs Q) (hR:∀v d,d.refs Q->R v d->R' v d):bG w' A' R' v F' c:=by
 cases c<;>first | exact Pl.mono h hA hwA hq hR | exact h.elim | exact af.mono h hA hwA hwF hF
theorem Mn{Q:D->Prop}{x c:D}(h:x.refs Q)(hc:c∈x.cells):c.refs Q:=by
 cases x<;>simp only[D.cells,List.mem_singleton] at hc<;>first | (subst hc;exact h) | exact bf.1 h c hc
theorem Db{Q:D->Prop}{l:List D}{sz j:Nat}{c:D}(h:∀x∈l,x.refs Q)(hc:cellAt l sz j=some c):c.refs Q:=by
 unfold cellAt at hc;cases hL:l[j / sz]? with
 | none=>simp[hL] at hc
 | some d =>
  rw[hL,Option.bind_some] at hc;exact Mn (h d (List.mem_of_getElem? hL)) (List.mem_of_getElem? hc)
theorem az.mono{Q:D->Prop}{c:D}:∀{F F':Nat->Prop},az w A R v F c->(∀b,A b->A' b)->(∀b,A b->w'.heap[b]?=w.heap[b]?)->(∀b,F b->w'.heap[b]?=w.heap[b]?)->(∀b,F b->F' b) ->
  c.refs Q->(∀v d,d.refs Q->R v d->R' v d)->az w' A' R' v F' c:=by
 induction c using D.ind with
 | o x _=>exact fun h hA hwA hwF hF _ _=>af.mono h hA hwA hwF hF
 | box l _ =>
  rintro F F' ⟨h0,b,cs,e,Fs,h1,h2,h3,h4,h5,h6,h7⟩ hA hwA hwF hF hq hR;replace hq:=bf.1 hq
  exact⟨h0,b,cs,e,Fs,h1,(hwF b h5).trans h2,h3,fun j c hj=>(h4 j c hj).mono hA hwA (fun d hd=>hwF d (h6 j d hd).2) (fun _ h=>h) (hq c (List.mem_of_getElem? hj)) hR,hF b h5,
   fun j c hj=>⟨(h6 j c hj).1,hF c (h6 j c hj).2⟩,h7⟩
 | row z l _ _ =>
  rintro F F' ⟨b,sz,cs,e,h1,h2,h3,h3',h3'',h3a,h3b,h4,h5⟩ hA hwA hwF hF hq hR;replace hq:=bf.1 hq;exact⟨b,sz,cs,e,h1,(hwF b h5).trans h2,h3,h3',h3'',h3a,h3b,fun j c hj=>⟨(h4 j c hj).1.mono hA hwA (Db hq hj) hR,(h4 j c hj).2⟩,hF b h5⟩
 | when g c ih =>
  exact fun h hA hwA _ _ hq hR=>⟨fun hg=>Pl.mono (h.1 hg) hA hwA hq hR,h.2⟩
 | _=>exact fun h hA hwA _ _ hq hR=>Pl.mono h hA hwA hq hR
theorem gr(q:D->Bool)(c:D):(c.kill q).refs fun d=>q d=false:=by
 induction c using D.ind with
 | sub k p=>simp only[D.kill];split<;>simp_all[D.refs]
 | aq k p=>simp only[D.kill];split<;>simp_all[D.refs]
 | pre k p n=>simp only[D.kill];split<;>simp_all[D.refs]
 | agg l ih | au l ih | box l ih | fn _ l ih=>simp only[D.kill,D.refs,bf,c6,List.mem_map];rintro _ ⟨y,hy,rfl⟩;exact ih y hy
 | row z l _ ih=>simp only[D.kill,D.refs,bf,c6,List.mem_map];rintro _ ⟨y,hy,rfl⟩;exact ih y hy
 | when g x ih=>exact ih
 | _=>trivial
theorem Pl.dead:Pl w A R v .dead:=.rd .dead
theorem Rd.kill{q:D->Bool}{d:D}(h:Rd w A v d):Rd w A v (d.kill q):=by
 induction h with
 | agg hs _ ih =>
  refine .agg (by simpa[c6] using hs) fun j x hx=>?_
  rw[c6,List.getElem?_map,Option.map_eq_some_iff] at hx;obtain⟨y,hy,rfl⟩:=hx;exact ih j y hy
 | au hs _ ih =>
  refine .au (by simpa[c6] using hs) fun j x hx=>?_
  rw[c6,List.getElem?_map,Option.map_eq_some_iff] at hx;obtain⟨y,hy,rfl⟩:=hx;exact ih j y hy
 | int h=>exact .int h
 | bool=>exact .bool
 | str h=>exact .str h
 | nil=>exact .nil
 | empty h=>exact .empty h
 | slice hA hc hm hz hzz hsz vs hcells hr ih=>exact .slice hA hc hm hz hzz hsz vs hcells hr
 | ptr hA vs hcells hr ih=>exact .ptr hA vs hcells hr
 | aF=>exact .aF
 | fn hs _ ih =>
  refine .fn (by simpa[c6] using hs) fun j x hx=>?_
  rw[c6,List.getElem?_map,Option.map_eq_some_iff] at hx;obtain⟨y,hy,rfl⟩:=hx;exact ih j y hy
 | vw h=>exact .vw h
 | o h=>exact .o h
 | aM=>exact .aM
 | dead=>exact .dead
 | mp hA hb hE=>exact .mp hA hb hE
 | bw=>exact .bw
 | bq h ih=>exact .bq h
 | bl=>exact .bl
 | bE hA hb hs=>exact .bE hA hb hs
 | fv hA hc=>exact .fv hA hc
theorem Pl.kill{q:D->Bool}{c:D}(h:Pl w A R v c)(hR:∀v d,R v d->(∃k p,d=.sub k p)\/(∃k p,d=.aq k p)\/(∃k p n,d=.pre k p n)):Pl w A R v (c.kill q):=by
 induction h with
 | rd h=>exact .rd h.kill
 | @ref v d h =>
  rcases hR v d h with⟨k,p,rfl⟩ | ⟨k,p,rfl⟩ | ⟨k,p,n,rfl⟩
  ·simp only[D.kill];split
   ·exact .dead
   ·exact .ref h
  ·simp only[D.kill];split
   ·exact .dead
   ·exact .ref h
  ·simp only[D.kill];split
   ·exact .dead
   ·exact .ref h
 | agg hs _ ih =>
  refine .agg (by simpa[c6] using hs) fun j x hx=>?_
  rw[c6] at hx;rw[List.getElem?_map,Option.map_eq_some_iff] at hx;obtain⟨y,hy,rfl⟩:=hx;exact ih j y hy
 | au hs _ ih =>
  refine .au (by simpa[c6] using hs) fun j x hx=>?_
  rw[c6] at hx;rw[List.getElem?_map,Option.map_eq_some_iff] at hx;obtain⟨y,hy,rfl⟩:=hx;exact ih j y hy
 | fn hs _ ih =>
  refine .fn (by simpa[c6] using hs) fun j x hx=>?_
  rw[c6] at hx;rw[List.getElem?_map,Option.map_eq_some_iff] at hx;obtain⟨y,hy,rfl⟩:=hx;exact ih j y hy
theorem aa.form{ct:Nat->D}{vl:Nat->Value}(v:Value)(d:D)(h:aa w ct vl v d):(∃k p,d=.sub k p)\/(∃k p,d=.aq k p)\/(∃k p n,d=.pre k p n):=by
 cases d<;>first | exact .inl ⟨_,_,rfl⟩ | exact .inr (.inl ⟨_,_,rfl⟩) | exact .inr (.inr ⟨_,_,_,rfl⟩) | exact h.elim
theorem bG.kill{q:D->Bool}{c:D}(h:bG w A R v F c)(hR:∀v d,R v d->(∃k p,d=.sub k p)\/(∃k p,d=.aq k p)\/(∃k p n,d=.pre k p n)):bG w A R v F (c.kill q):=by
 cases c
 case sub k p=>have:=Pl.kill (q:=q) h hR;simp only[D.kill] at this|-;split<;>simp_all[bG]
 case aq k p=>have:=Pl.kill (q:=q) h hR;simp only[D.kill] at this|-;split<;>simp_all[bG]
 case fn k p=>have:=Pl.kill (q:=q) h hR;simp only[D.kill] at this|-;exact this
 case o x=>exact h
 all_goals first | exact h | exact h.elim
theorem Bs(q:D->Bool)(x:D):(x.kill q).cells=x.cells.map (D.kill q):=by
 cases x<;>first | rfl | (simp only[D.kill,D.cells,List.map_cons,List.map_nil,c6];done) | (simp only[D.kill,D.cells,List.map_cons,List.map_nil];by_cases h:q (.sub ‹_› ‹_›)=true<;>simp[h];done) | (simp only[D.kill];split<;>rename_i h<;>simp[D.cells,D.kill,h])
theorem HX(q:D->Bool){c:D}(h:c.pc=true):(c.kill q).pc=true:=by
 cases c<;>first | exact h | (simp only[D.kill];split<;>rfl) | (simp[D.pc] at h)
theorem Gz(q:D->Bool)(l:List D)(sz j:Nat):cellAt (l.map (D.kill q)) sz j=(cellAt l sz j).map (D.kill q):=by
 unfold cellAt;rw[List.getElem?_map];cases l[j / sz]? with
 | none=>rfl
 | some d=>simp only[Option.map_some,Option.bind_some,Bs,List.getElem?_map]
theorem az.kill{q:D->Bool}{c:D}(hR:∀v d,R v d->(∃k p,d=.sub k p)\/(∃k p,d=.aq k p)\/(∃k p n,d=.pre k p n)):∀{F:Nat->Prop},az w A R v F c->az w A R v F (c.kill q):=by
 induction c using D.ind with
 | o x _=>exact fun h=>h
 | box l _ =>
  rintro F ⟨h0,b,cs,e,Fs,h1,h2,h3,h4,h5,h6,h7⟩;rw[D.kill,c6];refine⟨by simpa using h0,b,cs,e,Fs,h1,h2,by simpa using h3,fun j c hj=>?_,h5,h6,h7⟩;rw[List.getElem?_map,Option.map_eq_some_iff] at hj;obtain⟨y,hy,rfl⟩:=hj;exact(h4 j y hy).kill hR
 | row z l _ _ =>
  rintro F ⟨b,sz,cs,e,h1,h2,h3,h3',h3'',h3a,h3b,h4,h5⟩;rw[D.kill,c6];refine⟨b,sz,cs,e,by simpa using h1,h2,by simpa using h3,by simpa using h3',h3'',h3a,fun x hx=>?_,fun j c hj=>?_,h5⟩
  ·obtain⟨y,hy,rfl⟩:=List.mem_map.1 hx
   rw[Bs,List.length_map];exact h3b y hy
  ·rw[Gz,Option.map_eq_some_iff] at hj
   obtain⟨y,hy,rfl⟩:=hj;exact⟨(h4 j y hy).1.kill hR,HX _ (h4 j y hy).2⟩
 | when g c ih=>exact fun h=>⟨fun hg=>Pl.kill (h.1 hg) hR,h.2⟩
 | sub k p=>intro F h;have:=Pl.kill (q:=q) h hR;simp only[D.kill] at this|-;split<;>simp_all[az]
 | aq k p=>intro F h;have:=Pl.kill (q:=q) h hR;simp only[D.kill] at this|-;split<;>simp_all[az]
 | pre k p n=>intro F h;have:=Pl.kill (q:=q) h hR;simp only[D.kill] at this|-;split<;>simp_all[az]
 | fn k p=>intro F h;have:=Pl.kill (q:=q) h hR;simp only[D.kill] at this|-;exact this
 | _=>exact fun h=>Pl.kill (q:=q) h hR
end
end Go.D3
namespace Go.D3
open Go
class Mode where
 mono:Bool
def bQ[Mode](w w':World):Prop:=w'.output=w.output/\(Mode.mono=true->w.drawn<=w'.drawn)
theorem bQ.refl[Mode](w:World):bQ w w:=⟨rfl,fun _=>Nat.le_refl _⟩
theorem bQ.trans[Mode]{a b c:World}(h:bQ b c)(g:bQ a b):bQ a c:=⟨h.1.trans g.1,fun m=>Nat.le_trans (g.2 m) (h.2 m)⟩
theorem bQ.le[Mode]{w w':World}(h:w'.output=w.output)(d:w.drawn<=w'.drawn):bQ w w':=⟨h,fun _=>d⟩
theorem bQ.of[Mode]{w w':World}(h:w'.output=w.output)(d:w'.drawn=w.drawn):bQ w w':=⟨h,fun _=>Nat.le_of_eq d.symm⟩
structure Ctx where
 w0:World
 F0:Nat->Prop
 A0:Nat->Prop
 gv:Nat->Value
 hA:∀b,A0 b->b<w0.heap.size/\¬F0 b
 hg:ck w0 A0
 cG:List Deferred
def ae(cx:Ctx)(fp:Nat->Nat->Prop)(G:Nat->Prop)(w:World)(b:Nat):Prop:=(b<w.heap.size/\(b<cx.w0.heap.size->cx.A0 b))/\¬G b/\∀k,¬fp k b
structure Hp[Mode](cx:Ctx)(ct:Nat->D)(vl:Nat->Value)(fp:Nat->Nat->Prop)(G:Nat->Prop)(w:World):Prop where
 ok:∀k,az w (ae cx fp G w) (aa w ct vl) (vl k) (fp k) (ct k)
 bk:∀j k,j≠k->∀b,fp j b->¬fp k b
 bh:∀k b,fp k b->¬G b
 emp:∀k,(ct k).isObj=false->∀b,¬fp k b
 lt:∀k b,fp k b->b<w.heap.size/\(cx.F0 b\/cx.w0.heap.size<=b)
 bd:∀b,G b->b<w.heap.size/\(cx.F0 b\/cx.w0.heap.size<=b)
 size:cx.w0.heap.size<=w.heap.size
 same:∀b,b<cx.w0.heap.size->¬cx.F0 b->w.heap[b]?=cx.w0.heap[b]?
 os:w.os=cx.w0.os
 tape:w.tape=cx.w0.tape
 output:bQ cx.w0 w
theorem Hp.gl[Mode]{cx:Ctx}{ct:Nat->D}{vl:Nat->Value}{fp:Nat->Nat->Prop}{G:Nat->Prop}{w:World}(h:Hp cx ct vl fp G w):ck w (ae cx fp G w):=by
 refine cx.hg.mono (fun b hb=>?_) fun b hb=>h.same b (cx.hA b hb).1 (cx.hA b hb).2
 obtain⟨h1,h2⟩:=cx.hA b hb;have:=h.size;exact⟨⟨by omega,fun _=>hb⟩,fun hg=>(h.bd b hg).2.elim h2 (by omega),fun k hk=>(h.lt k b hk).2.elim h2 (by omega)⟩
def aj{α:Type}(f:Nat->α)(k:Nat)(x:α):Nat->α:=fun j=>if j=k then x else f j
theorem aT{α:Type}(f:Nat->α)(k:Nat)(x:α):aj f k x k=x:=by simp[aj]
theorem av{α:Type}(f:Nat->α){j k:Nat}(x:α)(h:j≠k):aj f k x j=f j:=by simp[aj,h]
theorem y8{w w':World}{A:Nat->Prop}:∀(p:Path){v:Value}{x:D}{F:Nat->Prop},af w A v x F->x.has p->(∀b,F b->w'.heap[b]?=w.heap[b]?) ->
  aE w' v x p=aE w v x p/\ay w' v x p=ay w v x p
 | [],v,x,F,h,_,_=>⟨rfl,rfl⟩
 | (i,off)::p,v,x,F,h,hp,hw=>by
  obtain⟨hk,hp'⟩:=hp;obtain⟨e1,e2,e3,e4⟩:=iZ h i off;obtain⟨u,F1,F2,g1,g2,g3,g4,g5,g6,g7⟩:=h.split (e2.1 hk)
  have hkv:bU w' v x i off=some u:=by
   obtain⟨hu,_⟩:=h.un;unfold bU;rw[hu];cases x<;>try exact(e2.1 hk).elim
   all_goals first
    | exact g1
    | (simp only[jM] at g1|-
       generalize ha:da v _ i off=a at g1|-
       cases a with
       | none=>simp at g1
       | some a =>
        obtain⟨j1,j2,j3,_⟩:=g7 a ha;simp only[Option.bind_some] at g1|-
        rw[<-g1];obtain⟨ab,ao,as⟩:=a;simp only at j2;cases as with
        | some _=>simp at j2
        | none=>exact cell_of_heap (hw _ (g4 _ j1)))
  rw[<-e1] at g2;obtain⟨i1,i2⟩:=y8 p g2 hp' fun b hb=>hw b (g3 b hb)
  rw[<-e4] at g1;refine⟨by simp only[aE,hkv,g1,Option.bind_some];exact i1,?_⟩;cases p with
  | nil=>rfl
  | cons s p=>simp only[ay,hkv,g1,Option.bind_some];exact i2
theorem fN{w:World}{A:Nat->Prop}{v:Value}{x:D}{F:Nat->Prop}(h:af w A v x F)(w':World)(p:Path):aE w' v (.o x) p=aE w' v x p/\ay w' v (.o x) p=ay w' v x p:=by
 obtain⟨hu,_⟩:=h.un;cases p with
 | nil=>exact⟨rfl,rfl⟩
 | cons s p =>
  obtain⟨i,off⟩:=s;have e1:bU w' v (.o x) i off=bU w' v x i off:=by unfold bU;rw[hu];rfl
  have e2:D.aS (.o x) i off=x.aS i off:=by unfold D.aS;rw[hu];rfl
  have e3:cT v (.o x) i off=cT v x i off:=by unfold cT;rw[hu];rfl
  refine⟨by simp only[aE,e1,e2],?_⟩;cases p with
  | nil=>simp only[ay,e3]
  | cons t p=>simp only[ay,e1,e2]
theorem eF{w w':World}{A:Nat->Prop}{R:Value->D->Prop}{v:Value}{c:D}{F:Nat->Prop}{p:Path}(h:az w A R v F c)(hp:c.aR p)(hw:∀b,F b->w'.heap[b]?=w.heap[b]?) :
  aE w' v c p=aE w v c p/\ay w' v c p=ay w v c p:=by
 cases c<;>try exact hp.elim
 case o x =>
  obtain⟨a1,a2⟩:=fN h w p;obtain⟨b1,b2⟩:=fN h w' p;obtain⟨c1,c2⟩:=y8 p h hp hw;exact⟨by rw[a1,b1,c1],by rw[a2,b2,c2]⟩
 case row z l=>simp only[D.aR] at hp;subst hp;exact⟨rfl,rfl⟩
 case box l =>
  cases p with
  | nil=>exact⟨rfl,rfl⟩
  | cons s p =>
   obtain⟨i,off⟩:=s;obtain⟨_,b,cs,e,Fs,h1,h2,h3,h4,h5,h6,h7⟩:=h;obtain⟨rfl,ho,hp⟩:=hp;subst h1
   have hcell:∀w'',w''.heap[b]?=w.heap[b]?->bU w'' (.pointer (some ⟨b,0,none⟩)) (.box l) 0 off=some (cs.getD off undef):=by
    intro w'' hb;show w''.cell? ⟨b,0+off,none⟩=_;rw[Nat.zero_add];exact cN (hb.trans h2) (by omega)
   have e1:=hcell w rfl;have e2:=hcell w' (hw b h5);cases p with
   | nil=>exact⟨by simp only[aE,e1,e2],rfl⟩
   | cons t p =>
    have hk:D.aS (.box l) 0 off=l.getD off .dead:=rfl;simp only at hp;split at hp
    ·rename_i y hy
     have hget:l[off]?=some (.o y):=by
      rw[List.getElem?_eq_getElem ho];rw[List.getD_eq_getElem?_getD,List.getElem?_eq_getElem ho] at hy;simpa using hy
     have hown:=h4 off _ hget;simp only[bG] at hown;obtain⟨a1,a2⟩:=fN hown w (t::p);obtain⟨b1,b2⟩:=fN hown w' (t::p);obtain⟨c1,c2⟩:=y8 (w':=w') (t::p) hown hp fun d hd=>hw d (h6 _ d hd).2
     rw[<-hy,<-hk] at a1 a2 b1 b2;constructor
     ·have:∀w'',bU w'' (.pointer (some ⟨b,0,none⟩)) (.box l) 0 off=some (cs.getD off undef)->aE w'' (.pointer (some ⟨b,0,none⟩)) (.box l) ((0,off)::t::p)=aE w'' (cs.getD off undef) (D.aS (.box l) 0 off) (t::p):=by
       intro w'' he;rw[aE,he,Option.bind_some]
      rw[this w' e2,this w e1,a1,b1,c1]
     ·have:∀w'',bU w'' (.pointer (some ⟨b,0,none⟩)) (.box l) 0 off=some (cs.getD off undef)->ay w'' (.pointer (some ⟨b,0,none⟩)) (.box l) ((0,off)::t::p)=ay w'' (cs.getD off undef) (D.aS (.box l) 0 off) (t::p):=by
       intro w'' he;rw[ay,he,Option.bind_some];simp
      rw[this w' e2,this w e1,a2,b2,c2]
    ·exact hp.elim
def cd(w w':World)(ct ct':Nat->D)(vl vl':Nat->Value):D->Prop
 | .sub k p=>(ct k).c8 p->(ct' k).c8 p/\aE w' (vl' k) (ct' k) p=aE w (vl k) (ct k) p
 | .aq k p=>(ct k).aR p->(ct' k).aR p/\ay w' (vl' k) (ct' k) p=ay w (vl k) (ct k) p
 | _=>True
theorem aa.bu{w w':World}{ct ct':Nat->D}{vl vl':Nat->Value}{v:Value}{d:D}(h:aa w ct vl v d)(hq:d.refs (cd w w' ct ct' vl vl')):aa w' ct' vl' v d:=by
 cases d<;>try exact h.elim
 case sub k p =>
  obtain⟨h1,h2,h2'⟩:=h;obtain⟨h3,h4⟩:=hq h1;exact⟨h3,h4.trans h2,h2'⟩
 case aq k p =>
  obtain⟨h1,a,h2,h2'⟩:=h;obtain⟨h3,h4⟩:=hq h1;exact⟨h3,a,h4.trans h2,h2'⟩
 case pre k p n =>
  obtain⟨q,m,c,⟨h1,h2⟩,h2'⟩:=h;obtain⟨h3,h4⟩:=hq h1;exact⟨q,m,c,⟨h3,h4.trans h2⟩,h2'⟩
theorem cn{Q Q':D->Prop}{c:D}(h:∀d,Q d->Q' d)(hc:c.refs Q):c.refs Q':=by
 induction c using D.ind with
 | agg l ih | au l ih | box l ih | fn _ l ih=>exact bf.2 fun x hx=>ih x hx (bf.1 hc x hx)
 | row z l _ ih=>exact bf.2 fun x hx=>ih x hx (bf.1 hc x hx)
 | when g x ih=>exact ih hc
 | sub k p=>exact h _ hc
 | aq k p=>exact h _ hc
 | pre k p n=>exact h _ hc
 | _=>trivial
theorem aV{Q:D->Prop}(h:∀d,Q d)(c:D):c.refs Q:=by
 induction c using D.ind with
 | agg l ih | au l ih | box l ih | fn _ l ih=>exact bf.2 ih
 | row z l _ ih=>exact bf.2 ih
 | when g x ih=>exact ih
 | sub k p=>exact h _
 | aq k p=>exact h _
 | pre k p n=>exact h _
 | _=>trivial
theorem Rd.vG{w:World}{A:Nat->Prop}{v:Value}{d:D}(h:Rd w A v d)(Q:D->Prop):d.refs Q:=by
 induction h with
 | agg hs _ ih=>exact bf.2 fun x hx=>by obtain⟨j,hj,rfl⟩:=List.getElem_of_mem hx;exact ih j _ (List.getElem?_eq_getElem hj)
 | au hs _ ih=>exact bf.2 fun x hx=>by obtain⟨j,hj,rfl⟩:=List.getElem_of_mem hx;exact ih j _ (List.getElem?_eq_getElem hj)
 | fn hs _ ih=>exact bf.2 fun x hx=>by obtain⟨j,hj,rfl⟩:=List.getElem_of_mem hx;exact ih j _ (List.getElem?_eq_getElem hj)
 | _=>trivial
section
variable{cx:Ctx}{ct:Nat->D}{vl:Nat->Value}{fp:Nat->Nat->Prop}{G:Nat->Prop}{w:World}
theorem rT(q:D->Bool)(l:List D)(n:Nat):(dq q l).getD n .dead=(l.getD n .dead).kill q:=by
 rw[c6,List.getD_eq_getElem?_getD,List.getD_eq_getElem?_getD,List.getElem?_map];cases l[n]?<;>rfl
theorem HW{q:D->Bool}{c y:D}:c.kill q=.o y↔c=.o y:=by
 cases c<;>simp only[D.kill,reduceCtorEq]<;>split<;>simp
theorem nU(q:D->Bool){c:D}{p:Path}(hp:c.aR p)(hl:bc (c.kill q) p=true):bc c p=true/\((c.at p).fU=true->((c.kill q).at p).fU=true):=by
 cases c<;>try exact hp.elim
 case o x=>cases hl
 case row z l=>cases hl
 case box l =>
  cases p with
  | nil=>cases hl
  | cons s p =>
   obtain⟨i,off⟩:=s;cases p with
   | cons t p=>cases hl
   | nil =>
    refine⟨rfl,fun h=>?_⟩;have e1:(D.box l).at [(i,off)]=l.getD off .dead:=rfl;have e2:((D.box l).kill q).at [(i,off)]=(l.getD off .dead).kill q:=rT q l off;rw[e1] at h;rw[e2];generalize l.getD off .dead=c at h;cases c<;>first | rfl | cases h
theorem ij(q:D->Bool)(c:D)(v:Value)(p:Path)(h:c.aR p):(c.kill q).aR p/\aE w v (c.kill q) p=aE w v c p/\ay w v (c.kill q) p=ay w v c p:=by
 cases c<;>try exact h.elim
 case o x=>exact⟨h,rfl,rfl⟩
 case row z l=>simp only[D.aR] at h;subst h;exact⟨rfl,rfl,rfl⟩
 case box l =>
  cases p with
  | nil=>exact⟨trivial,rfl,rfl⟩
  | cons s p =>
   obtain⟨i,off⟩:=s;obtain⟨rfl,ho,hp⟩:=h;have hk:D.aS (.box (dq q l)) 0 off=(l.getD off .dead).kill q:=rT q l off;have hkv:bU w v (.box (dq q l)) 0 off=bU w v (.box l) 0 off:=rfl;cases p with
   | nil=>exact⟨⟨rfl,by simpa[c6] using ho,trivial⟩,by simp only[D.kill,aE,hkv],rfl⟩
   | cons t p =>
    simp only at hp;split at hp
    ·rename_i y hy
     have hy':(l.getD off .dead).kill q=.o y:=HW.2 hy;have hk':D.aS (.box l) 0 off=.o y:=hy;rw[hy'] at hk;refine⟨⟨rfl,by simpa[c6] using ho,?_⟩,?_,?_⟩
     ·simp only[rT,hy'];exact hp
     ·simp only[D.kill];rw[aE,aE,hkv,hk,hk']
     ·simp only[D.kill];rw[ay,ay,hkv,hk,hk']<;>simp
    ·exact hp.elim
theorem HJ(q:D->Bool)(c:D):(c.kill q).isObj=c.isObj:=by
 cases c<;>first | rfl | (simp only[D.kill];split<;>rfl)
theorem Hp.kill[Mode](h:Hp cx ct vl fp G w)(q:D->Bool):Hp cx (fun k=>(ct k).kill q) vl fp G w where
 ok k:=by
  refine((h.ok k).kill (q:=q) aa.form).mono (Q:=fun _=>True) (fun _ h=>h) (fun _ _=>rfl) (fun _ _=>rfl) (fun _ h=>h) (aV (fun _=>trivial) _) fun v d _ hr=>?_
  refine hr.bu (aV (fun d=>?_) _);cases d<;>try trivial
  case sub k p=>exact fun hp=>⟨⟨(ij (w:=w) q (ct k) (vl k) p hp.1).1,fun hl=>(nU q hp.1 hl).2 (hp.2 (nU q hp.1 hl).1)⟩,(ij q (ct k) (vl k) p hp.1).2.1⟩
  case aq k p=>exact fun hp=>⟨(ij (w:=w) q (ct k) (vl k) p hp).1,(ij q (ct k) (vl k) p hp).2.2⟩
 bk:=h.bk
 bh:=h.bh
 emp k hk:=h.emp k (by rwa [HJ] at hk)
 lt:=h.lt
 bd:=h.bd
 size:=h.size
 same:=h.same
 os:=h.os
 tape:=h.tape
 output:=h.output
theorem Hp.grow[Mode](h:Hp cx ct vl fp G w){w':World}(hsz:w.heap.size<=w'.heap.size)(hw:∀b,b<w.heap.size->w'.heap[b]?=w.heap[b]?)
  (hos:w'.os=w.os) (htape:w'.tape=w.tape) (hout:bQ w w'):Hp cx ct vl fp (fun b=>G b\/(w.heap.size<=b/\b<w'.heap.size)) w' where
 ok k:=by
  refine(h.ok k).mono (Q:=fun _=>True) (fun b hb=>⟨⟨by have:=hb.1.1;omega,hb.1.2⟩,fun hg=>hg.elim hb.2.1 (fun hh=>by have:=hb.1.1;omega),hb.2.2⟩) (fun b hb=>hw b hb.1.1) (fun b hb=>hw b (h.lt k b hb).1) (fun _ h=>h) (aV (fun _=>trivial) _) fun v d _ hr=>?_
  refine hr.bu (aV (fun d=>?_) _);cases d<;>try trivial
  case sub k p=>exact fun hp=>⟨hp,(eF (h.ok k) hp.1 fun b hb=>hw b (h.lt k b hb).1).1⟩
  case aq k p=>exact fun hp=>⟨hp,(eF (h.ok k) hp fun b hb=>hw b (h.lt k b hb).1).2⟩
 bk:=h.bk
 bh k b hb hg:=hg.elim (h.bh k b hb) fun hh=>by have:=(h.lt k b hb).1;omega
 emp:=h.emp
 lt k b hb:=⟨by have:=(h.lt k b hb).1;omega,(h.lt k b hb).2⟩
 bd b hb:=hb.elim (fun hg=>⟨by have:=(h.bd b hg).1;omega,(h.bd b hg).2⟩) fun hh=>⟨hh.2,.inr (by have:=h.size;omega)⟩
 size:=Nat.le_trans h.size hsz
 same b hb hF:=by rw[hw b (by have:=h.size;omega)];exact h.same b hb hF
 os:=hos.trans h.os
 tape:=htape.trans h.tape
 output:=hout.trans h.output
theorem Hp.release[Mode](h:Hp cx ct vl fp G w){G':Nat->Prop}(hG:∀b,G' b->G b):Hp cx ct vl fp G' w where
 ok k:=(h.ok k).mono (Q:=fun _=>True) (fun b hb=>⟨hb.1,fun hg=>hb.2.1 (hG b hg),hb.2.2⟩) (fun _ _=>rfl) (fun _ _=>rfl) (fun _ h=>h) (aV (fun _=>trivial) _) fun _ _ _ hr=>hr
 bk:=h.bk
 bh k b hb hg:=h.bh k b hb (hG b hg)
 emp:=h.emp
 lt:=h.lt
 bd b hb:=h.bd b (hG b hb)
 size:=h.size
 same:=h.same
 os:=h.os
 tape:=h.tape
 output:=h.output
theorem mh{c:D}{p:Path}(h:c.aR p):c.isObj=true:=by cases c<;>first | rfl | exact h.elim
theorem Hp.put[Mode](h:Hp cx ct vl fp G w){k:Nat}(hk:(ct k).isObj=false){v:Value}{c:D}{F G':Nat->Prop}(hc:az w (ae cx fp G w) (aa w ct vl) v F c)
  (hF:∀b,F b->G b) (hG:∀b,G' b->G b) (hFG:∀b,F b->¬G' b) (hemp:c.isObj=false->∀b,¬F b):Hp cx (aj ct k c) (aj vl k v) (aj fp k F) G' w:=by
 have aI:∀b,ae cx fp G w b->ae cx (aj fp k F) G' w b:=by
  rintro b ⟨h1,h2,h3⟩;refine⟨h1,fun hg=>h2 (hG b hg),fun j hj=>?_⟩;by_cases hjk:j=k
  ·subst hjk;rw[aT] at hj;exact h2 (hF b hj)
  ·rw[av _ _ hjk] at hj;exact h3 j hj
 have hkeep:∀d,cd w w ct (aj ct k c) vl (aj vl k v) d:=by
  intro d;cases d<;>try trivial
  case sub j p =>
   intro hp;have hjk:j≠k:=by rintro rfl;rw[mh hp.1] at hk;cases hk
   simp only[av _ _ hjk];exact⟨hp,trivial⟩
  case aq j p =>
   intro hp;have hjk:j≠k:=by rintro rfl;rw[mh hp] at hk;cases hk
   simp only[av _ _ hjk];exact⟨hp,trivial⟩
 have mono:∀{v c F},az w (ae cx fp G w) (aa w ct vl) v F c->az w (ae cx (aj fp k F) G' w) (aa w (aj ct k c) (aj vl k v)) v F c->True:=fun _ _=>trivial
 refine⟨fun j=>?_,fun i j hij b hi hj=>?_,fun j b hj hg=>?_,fun j hj b hb=>?_,fun j b hj=>?_,fun b hb=>h.bd b (hG b hb),h.size,h.same,h.os,h.tape,h.output⟩
 ·by_cases hjk:j=k
  ·subst hjk
   simp only[aT];exact hc.mono (Q:=fun _=>True) aI (fun _ _=>rfl) (fun _ _=>rfl) (fun _ h=>h) (aV (fun _=>trivial) _) fun v d _ hr=>hr.bu (aV hkeep _)
  ·simp only[av _ _ hjk]
   exact(h.ok j).mono (Q:=fun _=>True) aI (fun _ _=>rfl) (fun _ _=>rfl) (fun _ h=>h) (aV (fun _=>trivial) _) fun v d _ hr=>hr.bu (aV hkeep _)
 ·by_cases h1:i=k<;>by_cases h2:j=k
  ·omega
  ·subst h1;rw[aT] at hi;rw[av _ _ h2] at hj;exact h.bh j b hj (hF b hi)
  ·subst h2;rw[aT] at hj;rw[av _ _ h1] at hi;exact h.bh i b hi (hF b hj)
  ·rw[av _ _ h1] at hi;rw[av _ _ h2] at hj;exact h.bk i j hij b hi hj
 ·by_cases hjk:j=k
  ·subst hjk;rw[aT] at hj;exact hFG b hj hg
  ·rw[av _ _ hjk] at hj;exact h.bh j b hj (hG b hg)
 ·by_cases hjk:j=k
  ·subst hjk;rw[aT] at hj hb;exact hemp hj b hb
  ·rw[av _ _ hjk] at hj hb;exact h.emp j hj b hb
 ·by_cases hjk:j=k
  ·subst hjk;rw[aT] at hj;exact h.bd b (hF b hj)
  ·rw[av _ _ hjk] at hj;exact h.lt j b hj
def bO(k:Nat):D->Prop
 | .sub j _=>j≠k
 | .aq j _=>j≠k
 | _=>True
theorem Hp.drop[Mode](h:Hp cx ct vl fp G w)(k:Nat)(hno:∀j,(ct j).refs (bO k))(v:Value):Hp cx (aj ct k .dead) (aj vl k v) (aj fp k fun _=>False) (fun b=>G b\/fp k b) w:=by
 have aI:∀b,ae cx fp G w b->ae cx (aj fp k fun _=>False) (fun b=>G b\/fp k b) w b:=by
  rintro b ⟨h1,h2,h3⟩;refine⟨h1,fun hg=>hg.elim h2 (h3 k),fun j hj=>?_⟩;by_cases hjk:j=k
  ·subst hjk;rw[aT] at hj;exact hj
  ·rw[av _ _ hjk] at hj;exact h3 j hj
 have hkeep:∀d,bO k d->cd w w ct (aj ct k .dead) vl (aj vl k v) d:=by
  intro d hd;cases d<;>try trivial
  all_goals
   rename_i j p;intro hp;simp only[av _ _ (show j≠k from hd)];exact⟨hp,trivial⟩
 refine⟨fun j=>?_,fun i j hij b hi hj=>?_,fun j b hj hg=>?_,fun j hj b hb=>?_,fun j b hj=>?_,fun b hb=>hb.elim (h.bd b) (h.lt k b),h.size,h.same,h.os,h.tape,h.output⟩
 ·by_cases hjk:j=k
  ·subst hjk
   simp only[aT];exact Pl.dead
  ·simp only[av _ _ hjk]
   exact(h.ok j).mono (Q:=bO k) aI (fun _ _=>rfl) (fun _ _=>rfl) (fun _ h=>h) (hno j) fun v d hq hr=>hr.bu (cn hkeep hq)
 ·by_cases h1:i=k<;>by_cases h2:j=k
  ·omega
  ·subst h1;rw[aT] at hi;exact hi
  ·subst h2;rw[aT] at hj;exact hj
  ·rw[av _ _ h1] at hi;rw[av _ _ h2] at hj;exact h.bk i j hij b hi hj
 ·by_cases hjk:j=k
  ·subst hjk;rw[aT] at hj;exact hj
  ·rw[av _ _ hjk] at hj;exact hg.elim (h.bh j b hj) (h.bk j k hjk b hj)
 ·by_cases hjk:j=k
  ·subst hjk;rw[aT] at hb;exact hb
  ·rw[av _ _ hjk] at hj hb;exact h.emp j hj b hb
 ·by_cases hjk:j=k
  ·subst hjk;rw[aT] at hj;exact hj.elim
  ·rw[av _ _ hjk] at hj;exact h.lt j b hj
end
end Go.D3
namespace Go.D3
open Go
def eH(w:World)(A:Nat->Prop)(R:Value->D->Prop)(v:Value)(F:Nat->Prop)(lvl:Bool)(y:D):Prop :=
 match lvl with
 | true=>bG w A R v F y
 | false=>af w A v y F
def ei:D->Path->D->Prop
 | .o x,p,y=>de x p y
 | .box _,[_],_=>True
 | .box l,(_,off)::p,y=>de (l.getD off .dead).un p y
 | _,_,_=>False
theorem D.ky{w:World}{A:Nat->Prop}{v:Value}{x:D}{F:Nat->Prop}(h:af w A v x F){p:Path}(hp:p≠[]):(D.o x).at p=x.at p:=by
 cases p with
 | nil=>exact absurd rfl hp
 | cons s p =>
  obtain⟨hu,_⟩:=h.un;simp only[D.at,D.aS,hu];rfl
theorem D.lF{w:World}{A:Nat->Prop}{v:Value}{x:D}{F:Nat->Prop}(h:af w A v x F){p:Path}(hp:p≠[])(y:D):(D.o x).setAt p y=.o (x.setAt p y):=by
 cases p with
 | nil=>exact absurd rfl hp
 | cons s p =>
  obtain⟨hu,hs⟩:=h.un;obtain⟨i,off⟩:=s;simp only[D.setAt,D.aS,hu,hs];rfl
theorem rh{w w':World}{A A':Nat->Prop}{R R':Value->D->Prop}{Q:D->Prop}{l:List D}{b off:Nat}{cs cs':Array Value}{e:TypeId}{Fs:Nat->Nat->Prop}{y:D}{F1' F':Nat->Prop}
  (h3:cs.size=l.length) (h4:∀j c,l[j]?=some c->bG w A R (cs.getD j undef) (Fs j) c) (h6:∀j c,Fs j c->c≠b) (h7:∀i j c,i≠j->Fs i c->¬Fs j c) (ho:off<l.length)
  (hA:∀b,A b->A' b) (hwA:∀b,A b->w'.heap[b]?=w.heap[b]?) (hw:∀c,(∃j,j≠off/\Fs j c)->w'.heap[c]?=w.heap[c]?) (hb:w'.heap[b]?=some (.cells cs' e (0,0))) (hcs:cs'.size=cs.size) (hcs':∀j,j≠off->cs'.getD j undef=cs.getD j undef)
  (hy:bG w' A' R' (cs'.getD off undef) F1' y) (hd:∀c,F1' c->¬(c=b\/∃j,j≠off/\Fs j c)) (h1:∀c,F1' c->F' c) (h2:∀c,(c=b\/∃j,j≠off/\Fs j c)->F' c)
  (hq:∀x∈l,x.refs Q) (hR:∀v d,d.refs Q->R v d->R' v d):tL w' A' R' (.pointer (some ⟨b,0,none⟩)) F' (l.set off y):=by
 refine⟨by rw[List.length_set];omega,b,cs',e,fun j c=>if j=off then F1' c else Fs j c,rfl,hb,by simp[hcs,h3],fun j c hj=>?_,h2 b (.inl rfl),fun j c hj=>?_,fun p q c hpq hp hq'=>?_⟩
 ·by_cases hjo:j=off
  ·subst hjo
   rw[List.getElem?_set_self ho] at hj;injection hj with hj
   subst hj;simpa using hy
  ·rw[List.getElem?_set_ne (Ne.symm hjo)] at hj
   simp only[if_neg hjo,hcs' j hjo];exact(h4 j c hj).mono hA hwA (fun c hc=>hw c ⟨j,hjo,hc⟩) (fun _ h=>h) (hq c (List.mem_of_getElem? hj)) hR
 ·dsimp only at hj
  split at hj
  ·exact⟨fun hcb=>hd c hj (.inl hcb),h1 c hj⟩
  ·rename_i hne;exact⟨h6 j c hj,h2 c (.inr ⟨j,hne,hj⟩)⟩
 ·dsimp only at hp hq'
  split at hp<;>split at hq'
  ·omega
  ·rename_i hq'';exact hd c hp (.inr ⟨q,hq'',hq'⟩)
  ·rename_i hp' _;exact hd c hq' (.inr ⟨p,hp',hp⟩)
  ·exact h7 p q c hpq hp hq'
theorem az.splitAt{w:World}{A:Nat->Prop}{R:Value->D->Prop}{v:Value}{c:D}{F:Nat->Prop}{p:Path}(h:az w A R v F c)(hp:c.aR p)(hne:p≠[]) :
  ∃(u:Value)(F1 F2:Nat->Prop),aE w v c p=some u/\eH w A R u F1 (bc c p) (c.at p)/\(∀b,F1 b->F b)/\(∀b,F2 b->F b)/\(∀b,F1 b->¬F2 b) /\
   (∀(w':World)(A':Nat->Prop)(R':Value->D->Prop)(Q:D->Prop)(y:D)(F1' F':Nat->Prop),(∀b,A b->A' b)->(∀b,A b->w'.heap[b]?=w.heap[b]?)->(∀b,F2 b->w'.heap[b]?=w.heap[b]?)->eH w' A' R' u F1' (bc c p) y->(∀b,F1' b->¬F2 b) ->
     ei c p y->(∀b,F1' b->F' b)->(∀b,F2 b->F' b)->c.refs Q->(∀v d,d.refs Q->R v d->R' v d)->az w' A' R' v F' (c.setAt p y)) /\
   (∀a,ay w v c p=some a->F2 a.block/\a.spot=none/\w.cell? a=some u/\w.frozen? a=false /\
     ∀(u':Value)(w':World)(A':Nat->Prop)(R':Value->D->Prop)(Q:D->Prop)(y:D)(F1' F':Nat->Prop),(∀b,A b->A' b)->(∀b,A b->w'.heap[b]?=w.heap[b]?)->(∀b,F2 b->b≠a.block->w'.heap[b]?=w.heap[b]?) ->
      w'.heap[a.block]?=(w.setCell a u').heap[a.block]?->eH w' A' R' u' F1' (bc c p) y->(∀b,F1' b->¬F2 b) ->
      ei c p y->(∀b,F1' b->F' b)->(∀b,F2 b->F' b)->c.refs Q->(∀v d,d.refs Q->R v d->R' v d)->az w' A' R' v F' (c.setAt p y)):=by
 cases c<;>try exact hp.elim
 case row z l=>exact absurd hp hne
 case o x =>
  obtain⟨u,F1,F2,g1,g2,g3,g4,g5,g6,g7⟩:=af.splitAt p h hp;obtain⟨a1,a2⟩:=fN h w p;have hl:bc (.o x) p=false:=rfl;refine⟨u,F1,F2,a1.trans g1,?_,g3,g4,g5,?_,?_⟩
  ·rw[hl,D.ky h hne];exact g2
  ·intro w' A' R' Q y F1' F' hA hwA hw hy hd hok h1 h2 _ _
   rw[D.lF h hne];exact g6 w' A' y F1' F' hA hwA hw hy hd hok h1 h2
  ·intro a ha
   rw[a2] at ha;obtain⟨j1,j2,j3,j3',j4⟩:=g7 a ha;refine⟨j1,j2,j3,j3',fun u' w' A' R' Q y F1' F' hA hwA hw hwb hy hd hok h1 h2 _ _=>?_⟩;rw[D.lF h hne];exact j4 u' w' A' y F1' F' hA hwA hw hwb hy hd hok h1 h2
 case box l =>
  cases p with
  | nil=>exact absurd rfl hne
  | cons s p =>
   obtain⟨i,off⟩:=s;obtain⟨_,b,cs,e,Fs,h1,h2,h3,h4,h5,h6,h7⟩:=h;obtain⟨rfl,ho,hp⟩:=hp;subst h1;have hsize:off<cs.size:=by omega
   have hcell:bU w (.pointer (some ⟨b,0,none⟩)) (.box l) 0 off=some (cs.getD off undef):=by
    show w.cell? ⟨b,0+off,none⟩=_;rw[Nat.zero_add];exact cN h2 hsize
   have hget:l[off]?=some (l.getD off .dead):=by
    rw[List.getD_eq_getElem?_getD,List.getElem?_eq_getElem ho];rfl
   have hcok:=h4 off _ hget;have hk:D.aS (.box l) 0 off=l.getD off .dead:=rfl
   have hrest:∀c,(c=b\/∃j,j≠off/\Fs j c)->F c:=by
    rintro c (rfl | ⟨j,_,hj⟩)
    ·exact h5
    ·exact(h6 j c hj).2
   have hdis0:∀c,Fs off c->¬(c=b\/∃j,j≠off/\Fs j c):=by
    rintro c hc (rfl | ⟨j,hne,hj⟩)
    ·exact(h6 _ _ hc).1 rfl
    ·exact h7 _ _ c (Ne.symm hne) hc hj
   cases p with
   | nil =>
    refine⟨cs.getD off undef,Fs off,(fun c=>c=b\/∃j,j≠off/\Fs j c),?_,hcok,fun c hc=>(h6 _ c hc).2,hrest,hdis0,?_,?_⟩
    ·simp only[aE,hcell,Option.bind_some]
    ·intro w' A' R' Q y F1' F' hA hwA hw hy hd _ g1 g2 hq hR
     exact rh h3 h4 (fun j c hj=>(h6 j c hj).1) h7 ho hA hwA (fun c hc=>hw c (.inr hc)) ((hw b (.inl rfl)).trans h2) rfl (fun _ _=>rfl) hy hd g1 g2 (bf.1 hq) hR
    ·intro a ha
     simp only[ay,cT,D.un,da,Option.some.injEq,Nat.zero_add] at ha;subst ha;refine⟨.inl rfl,rfl,cN h2 hsize,by simp[World.frozen?,h2],fun u' w' A' R' Q y F1' F' hA hwA hw hwb hy hd _ g1 g2 hq hR=>?_⟩;refine rh h3 h4 (fun j c hj=>(h6 j c hj).1) h7 ho hA hwA (fun c ⟨j,hne,hj⟩=>hw c (.inr ⟨j,hne,hj⟩) (h6 j c hj).1) (hwb.trans (xo u' h2)) (by simp) (fun j hj=>getD_set_ne _ (Ne.symm hj)) ?_ hd g1 g2 (bf.1 hq) hR;rw[kO _ hsize];exact hy
   | cons t p =>
    simp only at hp;split at hp
    ·rename_i y0 hy0
     rw[hy0] at hcok hk hget;simp only[bG] at hcok;obtain⟨u,F1,F2,g1,g2,g3,g4,g5,g6,g7⟩:=af.splitAt (t::p) hcok hp;obtain⟨a1,a2⟩:=fN hcok w (t::p);have hlv:bc (.box l) ((0,off)::t::p)=false:=rfl
     have hat:(D.box l).at ((0,off)::t::p)=y0.at (t::p):=by
      rw[D.at,hk,D.ky hcok (by simp)]
     have hset:∀y,(D.box l).setAt ((0,off)::t::p) y=.box (l.set off (.o (y0.setAt (t::p) y))):=by
      intro y;rw[D.setAt,hk,D.lF hcok (by simp)];rfl
     have hokk:∀y,ei (.box l) ((0,off)::t::p) y->de y0 (t::p) y:=by
      intro y hy;simpa only[ei,hy0,D.un] using hy
     refine⟨u,F1,fun c=>F2 c\/(c=b\/∃j,j≠off/\Fs j c),?_,?_,fun c hc=>(h6 _ c (g3 c hc)).2,?_,?_,?_,?_⟩
     ·rw[aE,hcell,Option.bind_some,hk,a1];exact g1
     ·rw[hlv,hat];exact g2
     ·rintro c (hc | hc)
      ·exact(h6 _ c (g4 c hc)).2
      ·exact hrest c hc
     ·rintro c hc (hc' | hc')
      ·exact g5 c hc hc'
      ·exact hdis0 c (g3 c hc) hc'
     ·intro w' A' R' Q y F1' F' hA hwA hw hy hd hok k1 k2 hq hR
      rw[hset];have:=g6 w' A' y F1' (fun c=>F1' c\/F2 c) hA hwA (fun c hc=>hw c (.inl hc)) hy (fun c hc hc'=>hd c hc (.inl hc')) (hokk y hok) (fun _ h=>.inl h) (fun _ h=>.inr h)
      exact rh (y:=.o (y0.setAt (t::p) y)) (F1':=fun c=>F1' c\/F2 c) h3 h4 (fun j c hj=>(h6 j c hj).1) h7 ho hA hwA (fun c hc=>hw c (.inr (.inr hc))) ((hw b (.inr (.inl rfl))).trans h2) rfl (fun _ _=>rfl) this
       (fun c hc hc'=>hc.elim (fun h=>hd c h (.inr hc')) fun h=>hdis0 c (g4 c h) hc') (fun c hc=>hc.elim (k1 c) fun h=>k2 c (.inl h)) (fun c hc=>k2 c (.inr hc)) (bf.1 hq) hR
     ·intro a ha
      have ha':ay w (cs.getD off undef) y0 (t::p)=some a:=by
       have e:ay w (.pointer (some ⟨b,0,none⟩)) (.box l) ((0,off)::t::p)=ay w (cs.getD off undef) (.o y0) (t::p):=by
        rw[ay,hcell,Option.bind_some,hk];simp
       rw[<-a2,<-e];exact ha
      obtain⟨j1,j2,j3,j3',j4⟩:=g7 a ha';refine⟨.inl j1,j2,j3,j3',fun u' w' A' R' Q y F1' F' hA hwA hw hwb hy hd hok k1 k2 hq hR=>?_⟩;rw[hset];have hab:a.block≠b:=(h6 _ _ (g4 _ j1)).1;have:=j4 u' w' A' y F1' (fun c=>F1' c\/F2 c) hA hwA (fun c hc hne=>hw c (.inl hc) hne) hwb hy (fun c hc hc'=>hd c hc (.inl hc')) (hokk y hok) (fun _ h=>.inl h) (fun _ h=>.inr h)
      exact rh (y:=.o (y0.setAt (t::p) y)) (F1':=fun c=>F1' c\/F2 c) h3 h4 (fun j c hj=>(h6 j c hj).1) h7 ho hA hwA
       (fun c ⟨j,hne,hj⟩=>hw c (.inr (.inr ⟨j,hne,hj⟩)) (by rintro rfl;exact h7 _ _ _ (Ne.symm hne) (g4 _ j1) hj)) ((hw b (.inr (.inl rfl)) (Ne.symm hab)).trans h2) rfl (fun _ _=>rfl) this
       (fun c hc hc'=>hc.elim (fun h=>hd c h (.inr hc')) fun h=>hdis0 c (g4 c h) hc') (fun c hc=>hc.elim (k1 c) fun h=>k2 c (.inl h)) (fun c hc=>k2 c (.inr hc)) (bf.1 hq) hR
    ·exact hp.elim
section
variable{cx:Ctx}{ct:Nat->D}{vl:Nat->Value}{fp:Nat->Nat->Prop}{G:Nat->Prop}{w:World}
theorem Hp.change[Mode](h:Hp cx ct vl fp G w){k:Nat}{c':D}{F' G':Nat->Prop}{w':World}(Q:D->Prop)(hobj:c'.isObj=true)
  (hc:az w' (ae cx fp G w) (aa w ct vl) (vl k) F' c') (hrefs:∀j,j≠k->(ct j).refs Q) (hrefs':c'.refs Q)
  (hF:∀b,F' b->fp k b\/G b) (hG:∀b,G' b->fp k b\/G b) (hFG:∀b,F' b->¬G' b)
  (hsz:w'.heap.size=w.heap.size) (hw:∀b,¬fp k b->w'.heap[b]?=w.heap[b]?) (hos:w'.os=w.os) (htape:w'.tape=w.tape) (hout:bQ w w')
  (hsub:∀p,Q (.sub k p)->(ct k).c8 p->c'.c8 p/\aE w' (vl k) c' p=aE w (vl k) (ct k) p)
  (hadr:∀p,Q (.aq k p)->(ct k).aR p->c'.aR p/\ay w' (vl k) c' p=ay w (vl k) (ct k) p) :
  Hp cx (aj ct k c') vl (aj fp k F') G' w'/\∀d,Q d->cd w w' ct (aj ct k c') vl vl d:=by
 have aI:∀b,ae cx fp G w b->ae cx (aj fp k F') G' w' b:=by
  rintro b ⟨h1,h2,h3⟩;refine⟨⟨by have:=h1.1;omega,h1.2⟩,fun hg=>(hG b hg).elim (h3 k) h2,fun j hj=>?_⟩;by_cases hjk:j=k
  ·subst hjk;rw[aT] at hj;exact(hF b hj).elim (h3 _) h2
  ·rw[av _ _ hjk] at hj;exact h3 j hj
 have hkeep:∀d,Q d->cd w w' ct (aj ct k c') vl vl d:=by
  intro d hd;cases d<;>try trivial
  case sub j p =>
   intro(hp:(ct j).c8 p);by_cases hjk:j=k
   ·subst hjk
    simp only[aT];exact hsub p hd hp
   ·simp only[av _ _ hjk]
    exact⟨hp,(eF (h.ok j) hp.1 fun b hb=>hw b (h.bk j k hjk b hb)).1⟩
  case aq j p =>
   intro hp;by_cases hjk:j=k
   ·subst hjk
    simp only[aT];exact hadr p hd hp
   ·simp only[av _ _ hjk]
    exact⟨hp,(eF (h.ok j) hp fun b hb=>hw b (h.bk j k hjk b hb)).2⟩
 refine⟨⟨fun j=>?_,fun i j hij b hi hj=>?_,fun j b hj hg=>?_,fun j hj b hb=>?_,fun j b hj=>?_,fun b hb=>?_,by rw[hsz];exact h.size,fun b hb hb0=>?_,hos.trans h.os,htape.trans h.tape,hout.trans h.output⟩,hkeep⟩
 ·by_cases hjk:j=k
  ·subst hjk
   simp only[aT];exact hc.mono (Q:=Q) aI (fun _ _=>rfl) (fun _ _=>rfl) (fun _ h=>h) hrefs' fun v d hq hr=>hr.bu (cn hkeep hq)
  ·simp only[av _ _ hjk]
   exact(h.ok j).mono (Q:=Q) aI (fun b hb=>hw b (hb.2.2 k)) (fun b hb=>hw b (h.bk j k hjk b hb)) (fun _ h=>h) (hrefs j hjk) fun v d hq hr=>hr.bu (cn hkeep hq)
 ·by_cases h1:i=k<;>by_cases h2:j=k
  ·omega
  ·subst h1;rw[aT] at hi;rw[av _ _ h2] at hj;exact(hF b hi).elim (h.bk j i (Ne.symm hij) b hj) (h.bh j b hj)
  ·subst h2;rw[aT] at hj;rw[av _ _ h1] at hi;exact(hF b hj).elim (h.bk i j hij b hi) (h.bh i b hi)
  ·rw[av _ _ h1] at hi;rw[av _ _ h2] at hj;exact h.bk i j hij b hi hj
 ·by_cases hjk:j=k
  ·subst hjk;rw[aT] at hj;exact hFG b hj hg
  ·rw[av _ _ hjk] at hj;exact(hG b hg).elim (h.bk j k hjk b hj) (h.bh j b hj)
 ·by_cases hjk:j=k
  ·subst hjk;rw[aT] at hj;rw[hobj] at hj;cases hj
  ·rw[av _ _ hjk] at hj hb;exact h.emp j hj b hb
 ·rw[hsz]
  by_cases hjk:j=k
  ·subst hjk;rw[aT] at hj;exact(hF b hj).elim (h.lt _ b) (h.bd b)
  ·rw[av _ _ hjk] at hj;exact h.lt j b hj
 ·rw[hsz];exact(hG b hb).elim (h.lt k b) (h.bd b)
 ·by_cases hk:fp k b
  ·have:=(h.lt k b hk).2
   rcases this with h1 | h1
   ·exact absurd h1 hb0
   ·omega
  ·rw[hw b hk];exact h.same b hb hb0
theorem Hv{x:D}{i off:Nat}{y:D}{i' off':Nat}:(x.cK i off y).dQ i' off'↔x.dQ i' off':=by
 cases x<;>simp[D.cK,D.dQ]
theorem HT{v:Value}{x:D}{i off:Nat}{y:D}{i' off':Nat}:da v (x.cK i off y) i' off'=da v x i' off':=by
 cases x<;>rfl
theorem xn{c:D}{p:Path}(hp:c.aR p)(hne:p≠[])(y:D):(c.setAt p y).isObj=true:=by
 cases p with
 | nil=>exact absurd rfl hne
 | cons t p =>
  obtain⟨i,off⟩:=t;cases c<;>first | rfl | exact hp.elim
theorem qt{Q:D->Prop}{w:World}{A:Nat->Prop}{R:Value->D->Prop}{v:Value}{c:D}{F:Nat->Prop}(h:az w A R v F c){p:Path}(hp:c.aR p)(hne:p≠[]){y:D}(hc:c.refs Q)(hy:bc c p=true->y.refs Q):(c.setAt p y).refs Q:=by
 cases c<;>try exact hp.elim
 case row z l=>exact absurd hp hne
 case o x=>rw[D.lF h hne];trivial
 case box l =>
  cases p with
  | nil=>exact absurd rfl hne
  | cons t p =>
   obtain⟨i,off⟩:=t;have e:(D.box l).setAt ((i,off)::p) y=.box (l.set off (((D.box l).aS i off).setAt p y)):=rfl;rw[e];refine bf.2 fun x hx=>?_
   rcases List.mem_or_eq_of_mem_set hx with h1 | h1
   ·exact bf.1 hc x h1
   ·subst h1
    cases p with
    | nil=>exact hy rfl
    | cons s p =>
     obtain⟨_,ho,hp⟩:=hp;simp only at hp;split at hp
     ·rename_i y0 hy0
      have:(D.box l).aS i off=.o y0:=hy0;rw[this];obtain⟨i',off'⟩:=s;trivial
     ·exact hp.elim
def D.a8(c:D)(p:Path):D:=(c.at p).un
theorem vj{c:D}(h:c.fU=true):∃y,c=.o y:=by cases c<;>first | exact⟨_,rfl⟩ | cases h
end
end Go.D3
namespace Go.D3
open Go
def apart:Path->Path->Bool
 | [],_=>false
 | _,[]=>false
 | s::p,t::q=>if s=t then apart p q else true
section
variable{w:World}{A:Nat->Prop}{v:Value}{x:D}{F:Nat->Prop}
theorem Bp(hz:∀z l,(x=.slice z l\/x=.row z l)->∀e∈l,e.cells.length=z.cells.length){i off:Nat}{y:D}(hk:x.dQ i off)(hy:x.fY i y):(x.cK i off y).db i off=y:=by
 have key:∀(z:D)(l:List D),(∀e∈l,e.cells.length=z.cells.length)->i<l.length->off<z.cells.length->iw (l.getD i z) y->((l.set i (dC (l.getD i z) off y)).getD i z).cells.getD off .dead=y:=by
  intro z l hz' h1 h2 hy;have hLi:l.getD i z=l[i]:=by rw[List.getD_eq_getElem?_getD,List.getElem?_eq_getElem h1];rfl
  have hl:=hz' l[i] (List.getElem_mem h1);rw[<-hLi] at hl;have e0:(l.set i (dC (l.getD i z) off y)).getD i z=dC (l.getD i z) off y:=by rw[List.getD_eq_getElem?_getD,List.getElem?_set_self h1,Option.getD_some]
  rw[e0];generalize l.getD i z=e at hl hy;rw[ti hy (by omega),List.getD_eq_getElem?_getD,List.getElem?_set_self (by omega),Option.getD_some]
 have key2:∀(l:List D),off<l.length->(l.set off y).getD off .dead=y:=by
  intro l h;rw[List.getD_eq_getElem?_getD,List.getElem?_set_self h,Option.getD_some]
 cases x<;>try exact hk.elim
 case slice z l=>exact key z l (hz z l (.inl rfl)) hk.1 hk.2 hy
 case row z l=>exact key z l (hz z l (.inr rfl)) hk.1 hk.2 hy
 all_goals exact key2 _ hk.2
theorem Bq(hz:∀z l,(x=.slice z l\/x=.row z l)->∀e∈l,e.cells.length=z.cells.length){i off i' off':Nat}{y:D}(hk:x.dQ i off)(hk':x.dQ i' off')(hne:(i,off)≠(i',off'))(hy:x.fY i y) :
  (x.cK i off y).db i' off'=x.db i' off':=by
 have key:∀(z:D)(l:List D),(∀e∈l,e.cells.length=z.cells.length)->i<l.length->off<z.cells.length->iw (l.getD i z) y->((l.set i (dC (l.getD i z) off y)).getD i' z).cells.getD off' .dead=(l.getD i' z).cells.getD off' .dead:=by
  intro z l hz' h1 h2 hy;by_cases hii:i=i'
  ·subst hii
   have hoo:off≠off':=fun h=>hne (by rw[h])
   have hLi:l.getD i z=l[i]:=by rw[List.getD_eq_getElem?_getD,List.getElem?_eq_getElem h1];rfl
   have hl:=hz' l[i] (List.getElem_mem h1);rw[<-hLi] at hl;have e0:(l.set i (dC (l.getD i z) off y)).getD i z=dC (l.getD i z) off y:=by rw[List.getD_eq_getElem?_getD,List.getElem?_set_self h1,Option.getD_some]
   rw[e0];generalize l.getD i z=e at hl hy;rw[ti hy (by omega),List.getD_eq_getElem?_getD,List.getElem?_set_ne hoo,<-List.getD_eq_getElem?_getD]
  ·rw[List.getD_eq_getElem?_getD (l:=l.set i _),List.getElem?_set_ne hii,<-List.getD_eq_getElem?_getD]
 have key2:∀(l:List D),i=0->i'=0->(l.set off y).getD off' .dead=l.getD off' .dead:=by
  intro l h h';have hoo:off≠off':=fun e=>hne (by rw[h,h',e])
  rw[List.getD_eq_getElem?_getD,List.getElem?_set_ne hoo,<-List.getD_eq_getElem?_getD]
 cases x<;>try exact hk.elim
 case slice z l=>exact key z l (hz z l (.inl rfl)) hk.1 hk.2 hy
 case row z l=>exact key z l (hz z l (.inr rfl)) hk.1 hk.2 hy
 all_goals exact key2 _ hk.1 hk'.1
theorem HV{i off:Nat}{y:D}{i' off':Nat}(w':World):jM w' v (x.cK i off y) i' off'=jM w' v x i' off':=by
 cases x<;>rfl
theorem EZ(hu:x.un=x)(i off:Nat)(y:D):(x.cK i off y).un=x.cK i off y:=by
 cases x<;>first | rfl | exact hu
theorem Br(h:af w A v x F){i off:Nat}(y:D)(i' off':Nat):((x.eS i off y).iS i' off'↔x.iS i' off')/\(∀w' v',bU w' v' (x.eS i off y) i' off'=bU w' v' x i' off')/\(∀v',cT v' (x.eS i off y) i' off'=cT v' x i' off') /\
  (x.eS i off y).aS i' off'=(x.cK i off y).db i' off':=by
 obtain⟨hu,hs⟩:=h.un;have hu':=EZ hu i off y;unfold D.iS bU cT D.aS;rw[hs,hu',hu];exact⟨Hv,fun w' v'=>HV w',fun v'=>HT,rfl⟩
theorem uc{y:D}:∀(p q:Path){v:Value}{x:D}{F:Nat->Prop},af w A v x F->x.has p->x.has q->apart p q=true->de x p y ->
  (x.setAt p y).has q/\(x.setAt p y).at q=x.at q/\∀(w':World)(v':Value),aE w' v' (x.setAt p y) q=aE w' v' x q/\ay w' v' (x.setAt p y) q=ay w' v' x q
 | [],q,_,_,_,_,_,_,ha,_=>by simp[apart] at ha
 | _::_,[],_,_,_,_,_,_,ha,_=>by simp[apart] at ha
 | (i,off)::p,(i',off')::q,v,x,F,h,hp,hq,ha,hok=>by
  obtain⟨e1,e2,e3,e4⟩:=iZ h i off;obtain⟨u,F1,F2,g1,g2,_⟩:=h.split (e2.1 hp.1);rw[<-e1] at g2
  have hok':x.fY i ((x.aS i off).setAt p y)/\(p≠[]->de (x.aS i off) p y):=by
   cases p with
   | nil=>simp only[de,h.un.1] at hok;exact⟨hok,fun h=>absurd rfl h⟩
   | cons s p =>
    refine⟨vO (e2.1 hp.1) h.lG ?_,fun _=>hok⟩;rw[xm (by simp) y g2.un.1,e1]
  obtain⟨k1,k2,k3,k4⟩:=Br h (i:=i) (off:=off) ((x.aS i off).setAt p y) i' off';have e1':=(iZ h i' off').1;have e2':=(iZ h i' off').2.1;simp only[D.setAt];by_cases aI:(i,off)=(i',off')
  ·have hpq:apart p q=true:=by simpa[apart,aI] using ha
   cases aI;have hpne:p≠[]:=by rintro rfl;simp[apart] at hpq
   obtain⟨j1,j2,j3⟩:=uc p q g2 hp.2 hq.2 hpq (hok'.2 hpne);have hkid:(x.eS i off ((x.aS i off).setAt p y)).aS i off=(x.aS i off).setAt p y:=by rw[k4];exact Bp h.lG (e2.1 hp.1) hok'.1
   refine⟨⟨k1.2 hq.1,by rw[hkid];exact j1⟩,by simp only[D.at];rw[hkid];exact j2,fun w' v'=>⟨?_,?_⟩⟩
   ·simp only[aE]
    rw[k2,hkid];congr 1;funext u';exact(j3 w' u').1
   ·cases q with
    | nil=>simp only[ay];exact k3 v'
    | cons t q =>
     simp only[ay];rw[k2,hkid];congr 1;funext u';exact(j3 w' u').2
  ·have hkid:(x.eS i off ((x.aS i off).setAt p y)).aS i' off'=x.aS i' off':=by rw[k4,e1'];exact Bq h.lG (e2.1 hp.1) (e2'.1 hq.1) aI hok'.1
   refine⟨⟨k1.2 hq.1,by rw[hkid];exact hq.2⟩,by simp only[D.at];rw[hkid],fun w' v'=>⟨?_,?_⟩⟩
   ·simp only[aE];rw[k2,hkid]
   ·cases q with
    | nil=>simp only[ay];exact k3 v'
    | cons t q=>simp only[ay];rw[k2,hkid]
theorem zK{x:D}(hu:x.un=x){p:Path}(hp:p≠[]):(D.o x).at p=x.at p:=by
 cases p with
 | nil=>exact absurd rfl hp
 | cons s p=>simp only[D.at,D.aS,hu];rfl
theorem oO{x:D}(hu:x.un=x)(w':World)(v:Value)(p:Path):aE w' v (.o x) p=aE w' v x p/\ay w' v (.o x) p=ay w' v x p:=by
 cases p with
 | nil=>exact⟨rfl,rfl⟩
 | cons s p =>
  obtain⟨i,off⟩:=s;have e1:bU w' v (.o x) i off=bU w' v x i off:=by unfold bU;rw[hu];rfl
  have e2:D.aS (.o x) i off=x.aS i off:=by unfold D.aS;rw[hu];rfl
  have e3:cT v (.o x) i off=cT v x i off:=by unfold cT;rw[hu];rfl
  refine⟨by simp only[aE,e1,e2],?_⟩;cases p with
  | nil=>simp only[ay,e3]
  | cons t p=>simp only[ay,e1,e2]
theorem qy(h:af w A v x F){p:Path}(hp:p≠[])(y:D):(x.setAt p y).un=x.setAt p y:=by
 cases p with
 | nil=>exact absurd rfl hp
 | cons s p =>
  obtain⟨hu,hs⟩:=h.un;simp only[D.setAt];rw[hs];exact EZ hu _ _ _
theorem vN:∀(p:Path)(x:D),de x p .dead
 | [],_=>trivial
 | [(i,off)],x=>by
  simp only[de];generalize x.un=z;cases z<;>first | trivial | exact .inr rfl
 | (i,off)::s::p,x=>vN (s::p) (x.aS i off)
theorem J2{c:D}{p:Path}(hp:c.aR p)(hne:p≠[]):ei c p .dead:=by
 cases c<;>try exact hp.elim
 case o x=>exact vN p x
 case row=>exact absurd hp hne
 case box l =>
  cases p with
  | nil=>exact absurd rfl hne
  | cons s p =>
   cases p with
   | nil=>exact trivial
   | cons t p=>exact vN (t::p) _
theorem qX{R:Value->D->Prop}{c y:D}{p q:Path}(h:az w A R v F c)(hp:c.aR p)(hq:c.aR q)(ha:apart p q=true)(hok:ei c p y) :
  (c.setAt p y).aR q/\bc (c.setAt p y) q=bc c q/\(c.setAt p y).at q=c.at q/\∀(w':World),aE w' v (c.setAt p y) q=aE w' v c q/\ay w' v (c.setAt p y) q=ay w' v c q:=by
 have hpne:p≠[]:=by rintro rfl;simp[apart] at ha
 have hqne:q≠[]:=by rintro rfl;cases p<;>simp[apart] at ha
 cases c<;>try exact hp.elim
 case row z l=>exact absurd hp hpne
 case o x =>
  obtain⟨h1,h2,h3⟩:=uc p q h hp hq ha hok;rw[D.lF h hpne];refine⟨h1,rfl,?_,fun w'=>?_⟩
  ·rw[zK (qy h hpne y) hqne,D.ky h hqne,h2]
  ·obtain⟨a1,a2⟩:=fN h w' q
   obtain⟨b1,b2⟩:=oO (qy h hpne y) w' v q;rw[a1,a2,b1,b2];exact h3 w' v
 case box l =>
  obtain⟨_,b,cs,e,Fs,h1,h2,h3,h4,h5,h6,h7⟩:=h;cases p with
  | nil=>exact absurd rfl hpne
  | cons s p =>
  cases q with
  | nil=>exact absurd rfl hqne
  | cons t q =>
  obtain⟨i,off⟩:=s;obtain⟨i',off'⟩:=t;obtain⟨rfl,ho,hp⟩:=hp;obtain⟨rfl,ho',hq⟩:=hq;have hset:∀y',(D.box l).eS 0 off y'=.box (l.set off y'):=fun _=>rfl
  have hkid:∀(l:List D) off,(D.box l).aS 0 off=l.getD off .dead:=fun _ _=>rfl
  have hkv:∀w' y',bU w' v (.box (l.set off y')) 0 off'=bU w' v (.box l) 0 off':=fun _ _=>rfl
  have hlv:∀l',bc (.box l') ((0,off')::q)=bc (.box l) ((0,off')::q):=by intro l';cases q<;>rfl
  by_cases hoo:off=off'
  ·subst hoo
   have hpq:apart p q=true:=by simpa[apart] using ha
   cases p with
   | nil=>simp[apart] at hpq
   | cons s' p =>
   cases q with
   | nil=>simp[apart] at hpq
   | cons t' q =>
   simp only at hp hq;split at hp
   ·rename_i y0 hy0
    rw[hy0] at hq
    have hget:l[off]?=some (.o y0):=by
     rw[List.getElem?_eq_getElem ho];rw[List.getD_eq_getElem?_getD,List.getElem?_eq_getElem ho] at hy0;simpa using hy0
    have hown:=h4 off _ hget;simp only[bG] at hown;simp only[ei,hy0,D.un] at hok;obtain⟨j1,j2,j3⟩:=uc (s'::p) (t'::q) hown hp hq hpq hok
    have hs1:(D.box l).setAt ((0,off)::s'::p) y=.box (l.set off (.o (y0.setAt (s'::p) y))):=by
     rw[D.setAt,hset,hkid,hy0,D.lF hown (by simp)]
    have hg1:(l.set off (.o (y0.setAt (s'::p) y))).getD off .dead=.o (y0.setAt (s'::p) y):=by
     rw[List.getD_eq_getElem?_getD,List.getElem?_set_self ho,Option.getD_some]
    have hun:=qy hown (p:=s'::p) (by simp) y;rw[hs1];refine⟨⟨rfl,by simpa using ho,?_⟩,rfl,?_,fun w'=>?_⟩
    ·simp only[hg1];exact j1
    ·simp only[D.at]
     rw[hkid,hkid,hg1,hy0];have:=j2;rw[<-zK hun (by simp),<-D.ky hown (by simp)] at this;exact this
    ·have ev:∀u,aE w' u (.o (y0.setAt (s'::p) y)) (t'::q)=aE w' u (.o y0) (t'::q)/\ay w' u (.o (y0.setAt (s'::p) y)) (t'::q)=ay w' u (.o y0) (t'::q):=by
      intro u;obtain⟨b1,b2⟩:=oO hun w' u (t'::q);obtain⟨a1,a2⟩:=oO hown.un.1 w' u (t'::q);rw[a1,a2,b1,b2];exact j3 w' u
     constructor
     ·rw[aE,aE,hkv,hkid,hkid,hg1,hy0]
      congr 1;funext u;exact(ev u).1
     ·rw[ay,ay,hkv,hkid,hkid,hg1,hy0]
      ·congr 1;funext u;exact(ev u).2
      all_goals simp
   ·exact hp.elim
  ·have hg:∀y',(l.set off y').getD off' .dead=l.getD off' .dead:=by
    intro y';rw[List.getD_eq_getElem?_getD,List.getElem?_set_ne hoo,<-List.getD_eq_getElem?_getD]
   simp only[D.setAt];rw[hset];generalize(D.box l |>.aS 0 off).setAt p y=y';refine⟨⟨rfl,by simpa using ho',?_⟩,hlv _,?_,fun w'=>⟨?_,?_⟩⟩
   ·cases q with
    | nil=>trivial
    | cons t' q=>simp only[hg];exact hq
   ·simp only[D.at];rw[hkid,hkid,hg]
   ·simp only[aE];rw[hkv,hkid,hkid,hg]
   ·cases q with
    | nil=>rfl
    | cons t' q=>simp only[ay];rw[hkv,hkid,hkid,hg]
theorem xw{y:D}:∀(p q:Path){v:Value}{x:D}{F:Nat->Prop},af w A v x F->x.has p->x.has q->q.length<=p.length->de x p y ->
  (x.setAt p y).has q/\∀(w':World)(v':Value),aE w' v' (x.setAt p y) q=aE w' v' x q/\ay w' v' (x.setAt p y) q=ay w' v' x q
 | _,[],_,_,_,_,_,_,_,_=>⟨trivial,fun _ _=>⟨rfl,rfl⟩⟩
 | [],_::_,_,_,_,_,_,_,hl,_=>by simp at hl
 | (i,off)::p,(i',off')::q,v,x,F,h,hp,hq,hl,hok=>by
  obtain⟨e1,e2,e3,e4⟩:=iZ h i off;obtain⟨u,F1,F2,g1,g2,_⟩:=h.split (e2.1 hp.1);rw[<-e1] at g2
  have hok':x.fY i ((x.aS i off).setAt p y)/\(p≠[]->de (x.aS i off) p y):=by
   cases p with
   | nil=>simp only[de,h.un.1] at hok;exact⟨hok,fun h=>absurd rfl h⟩
   | cons s p =>
    refine⟨vO (e2.1 hp.1) h.lG ?_,fun _=>hok⟩;rw[xm (by simp) y g2.un.1,e1]
  obtain⟨k1,k2,k3,k4⟩:=Br h (i:=i) (off:=off) ((x.aS i off).setAt p y) i' off';have e1':=(iZ h i' off').1;have e2':=(iZ h i' off').2.1;have hl':q.length<=p.length:=by simpa using hl
  simp only[D.setAt];by_cases aI:(i,off)=(i',off')
  ·cases aI
   have hkid:(x.eS i off ((x.aS i off).setAt p y)).aS i off=(x.aS i off).setAt p y:=by rw[k4];exact Bp h.lG (e2.1 hp.1) hok'.1
   cases p with
   | nil =>
    have:q=[]:=List.eq_nil_of_length_eq_zero (by simpa using hl');subst this;refine⟨⟨k1.2 hq.1,trivial⟩,fun w' v'=>⟨?_,?_⟩⟩
    ·simp only[aE];rw[k2]
    ·simp only[ay];exact k3 v'
   | cons s p =>
   obtain⟨j1,j3⟩:=xw (s::p) q g2 hp.2 hq.2 hl' (hok'.2 (by simp));refine⟨⟨k1.2 hq.1,by rw[hkid];exact j1⟩,fun w' v'=>⟨?_,?_⟩⟩
   ·simp only[aE]
    rw[k2,hkid];congr 1;funext u';exact(j3 w' u').1
   ·cases q with
    | nil=>simp only[ay];exact k3 v'
    | cons t q =>
     simp only[ay];rw[k2,hkid];congr 1;funext u';exact(j3 w' u').2
  ·have hkid:(x.eS i off ((x.aS i off).setAt p y)).aS i' off'=x.aS i' off':=by rw[k4,e1'];exact Bq h.lG (e2.1 hp.1) (e2'.1 hq.1) aI hok'.1
   refine⟨⟨k1.2 hq.1,by rw[hkid];exact hq.2⟩,fun w' v'=>⟨?_,?_⟩⟩
   ·simp only[aE];rw[k2,hkid]
   ·cases q with
    | nil=>simp only[ay];exact k3 v'
    | cons t q=>simp only[ay];rw[k2,hkid]
theorem nb{R:Value->D->Prop}{c y:D}{p q:Path}(h:az w A R v F c)(hp:c.aR p)(hne:p≠[])(hq:c.aR q)(hl:q.length<=p.length)(hok:ei c p y) :
  (c.setAt p y).aR q/\(∀(w':World),aE w' v (c.setAt p y) q=aE w' v c q/\ay w' v (c.setAt p y) q=ay w' v c q)/\((q.length<p.length\/(bc c p=true->y.fU=true))->c.c8 q->(c.setAt p y).c8 q):=by
 cases c<;>try exact hp.elim
 case row z l=>exact absurd hp hne
 case o x =>
  have hun:=qy h hne y;rw[D.lF h hne];have hlo:∀z,bc (.o z) q=false:=fun z=>by cases q<;>rfl
  have key:(x.setAt p y).has q/\∀w',aE w' v (.o (x.setAt p y)) q=aE w' v (.o x) q/\ay w' v (.o (x.setAt p y)) q=ay w' v (.o x) q:=by
   obtain⟨h1,h3⟩:=xw p q h hp hq hl hok;refine⟨h1,fun w'=>?_⟩;obtain⟨a1,a2⟩:=fN h w' q;obtain⟨b1,b2⟩:=oO hun w' v q;rw[a1,a2,b1,b2];exact h3 w' v
  exact⟨key.1,key.2,fun _ _=>⟨key.1,fun hh=>by rw[hlo] at hh;cases hh⟩⟩
 case box l =>
  obtain⟨_,b,cs,e,Fs,h1,h2,h3,h4,h5,h6,h7⟩:=h;cases p with
  | nil=>exact absurd rfl hne
  | cons s p =>
  obtain⟨i,off⟩:=s;obtain⟨rfl,ho,hp⟩:=hp;have hset:∀y',(D.box l).eS 0 off y'=.box (l.set off y'):=fun _=>rfl
  have hkid:∀(l:List D) off,(D.box l).aS 0 off=l.getD off .dead:=fun _ _=>rfl
  cases q with
  | nil =>
   simp only[D.setAt];rw[hset];exact⟨trivial,fun w'=>⟨rfl,rfl⟩,fun _ _=>⟨trivial,fun hh=>by cases hh⟩⟩
  | cons t q =>
  obtain⟨i',off'⟩:=t;obtain⟨rfl,ho',hq⟩:=hq;have hkv:∀w' y',bU w' v (.box (l.set off y')) 0 off'=bU w' v (.box l) 0 off':=fun _ _=>rfl
  have hlv:∀l',bc (.box l') ((0,off')::q)=bc (.box l) ((0,off')::q):=by intro l';cases q<;>rfl
  by_cases hoo:off=off'
  ·subst hoo
   cases p with
   | nil =>
    have:q=[]:=List.eq_nil_of_length_eq_zero (by simpa using hl);subst this;have hs1:(D.box l).setAt [(0,off)] y=.box (l.set off y):=rfl;rw[hs1];have hC:(D.box (l.set off y)).aR [(0,off)]:=⟨rfl,by simpa using ho,trivial⟩;refine⟨hC,fun w'=>⟨?_,rfl⟩,fun hy hs=>⟨hC,fun _=>?_⟩⟩
    ·simp only[aE];rw[hkv]
    ·have e1:(D.box (l.set off y)).at [(0,off)]=y:=by
      show(l.set off y).getD off .dead=y;rw[List.getD_eq_getElem?_getD,List.getElem?_set_self ho,Option.getD_some]
     rw[e1];exact hy.resolve_left (by simp) rfl
   | cons s' p =>
   simp only at hp;split at hp
   ·rename_i y0 hy0
    have hget:l[off]?=some (.o y0):=by
     rw[List.getElem?_eq_getElem ho];rw[List.getD_eq_getElem?_getD,List.getElem?_eq_getElem ho] at hy0;simpa using hy0
    have hown:=h4 off _ hget;simp only[bG] at hown;simp only[ei,hy0,D.un] at hok
    have hs1:(D.box l).setAt ((0,off)::s'::p) y=.box (l.set off (.o (y0.setAt (s'::p) y))):=by
     rw[D.setAt,hset,hkid,hy0,D.lF hown (by simp)]
    have hg1:(l.set off (.o (y0.setAt (s'::p) y))).getD off .dead=.o (y0.setAt (s'::p) y):=by
     rw[List.getD_eq_getElem?_getD,List.getElem?_set_self ho,Option.getD_some]
    have hun:=qy hown (p:=s'::p) (by simp) y;rw[hs1];cases q with
    | nil =>
     have hC:(D.box (l.set off (.o (y0.setAt (s'::p) y)))).aR [(0,off)]:=⟨rfl,by simpa using ho,trivial⟩;refine⟨hC,fun w'=>⟨?_,rfl⟩,fun _ _=>⟨hC,fun _=>?_⟩⟩
     ·simp only[aE];rw[hkv]
     ·have e1:(D.box (l.set off (.o (y0.setAt (s'::p) y)))).at [(0,off)]=.o (y0.setAt (s'::p) y):=hg1
      rw[e1];rfl
    | cons t' q =>
    simp only at hq;rw[hy0] at hq;obtain⟨j1,j3⟩:=xw (s'::p) (t'::q) hown hp hq (by simpa using hl) hok
    have hC:(D.box (l.set off (.o (y0.setAt (s'::p) y)))).aR ((0,off)::t'::q):=by
     refine⟨rfl,by simpa using ho,?_⟩;simp only[hg1];exact j1
    refine⟨hC,fun w'=>?_,fun _ _=>⟨hC,fun hh=>by cases hh⟩⟩
    have ev:∀u,aE w' u (.o (y0.setAt (s'::p) y)) (t'::q)=aE w' u (.o y0) (t'::q)/\ay w' u (.o (y0.setAt (s'::p) y)) (t'::q)=ay w' u (.o y0) (t'::q):=by
     intro u;obtain⟨b1,b2⟩:=oO hun w' u (t'::q);obtain⟨a1,a2⟩:=oO hown.un.1 w' u (t'::q);rw[a1,a2,b1,b2];exact j3 w' u
    constructor
    ·rw[aE,aE,hkv,hkid,hkid,hg1,hy0]
     congr 1;funext u;exact(ev u).1
    ·rw[ay,ay,hkv,hkid,hkid,hg1,hy0]
     ·congr 1;funext u;exact(ev u).2
     all_goals simp
   ·exact hp.elim
  ·have hg:∀y',(l.set off y').getD off' .dead=l.getD off' .dead:=by
    intro y';rw[List.getD_eq_getElem?_getD,List.getElem?_set_ne hoo,<-List.getD_eq_getElem?_getD]
   simp only[D.setAt];rw[hset];generalize(D.box l |>.aS 0 off).setAt p y=y'
   have hC:(D.box (l.set off y')).aR ((0,off')::q):=by
    refine⟨rfl,by simpa using ho',?_⟩;cases q with
    | nil=>trivial
    | cons t' q=>simp only[hg];exact hq
   refine⟨hC,fun w'=>⟨?_,?_⟩,fun _ hs=>⟨hC,fun hh=>?_⟩⟩
   ·simp only[aE];rw[hkv,hkid,hkid,hg]
   ·cases q with
    | nil=>rfl
    | cons t' q=>simp only[ay];rw[hkv,hkid,hkid,hg]
   ·rw[hlv] at hh
    have:=hs.2 hh;simp only[D.at] at this|-
    rw[hkid] at this|-
    rw[hg];exact this
end
end Go.D3
namespace Go.D3
open Go
theorem kP(x:D):∀(p q:Path),x.has (p++q)↔x.has p/\(x.at p).has q:=by
 intro p;induction p generalizing x with
 | nil=>intro q;simp[D.has,D.at]
 | cons s p ih=>intro q;obtain⟨i,off⟩:=s;simp only[List.cons_append,D.has,D.at,ih,and_assoc]
theorem OQ(w:World):∀(p q:Path)(v:Value)(x:D),aE w v x (p++q)=(aE w v x p).bind fun u=>aE w u (x.at p) q:=by
 intro p;induction p with
 | nil=>intro q v x;rfl
 | cons s p ih =>
  intro q v x;obtain⟨i,off⟩:=s;simp only[List.cons_append,aE,D.at,ih];cases bU w v x i off<;>rfl
theorem oY(w:World):∀(p q:Path)(v:Value)(x:D),q≠[]->ay w v x (p++q)=(aE w v x p).bind fun u=>ay w u (x.at p) q:=by
 intro p;induction p with
 | nil=>intro q v x _;rfl
 | cons s p ih =>
  intro q v x hq;obtain⟨i,off⟩:=s;have:p++q≠[]:=by simp[hq]
  have e:ay w v x ((i,off)::(p++q))=(bU w v x i off).bind fun u=>ay w u (x.aS i off) (p++q):=by
   cases h:p++q with
   | nil=>exact absurd h this
   | cons t r=>rfl
  rw[List.cons_append,e];simp only[aE,D.at];cases bU w v x i off with
  | none=>rfl
  | some u=>simp only[Option.bind_some];exact ih q u _ hq
def fE:Path->Path->Bool
 | _,[]=>false
 | [],_::_=>true
 | _::p,_::q=>fE p q
def ia:Path->Path->Bool
 | [],_=>true
 | _::_,[]=>false
 | _::p,_::q=>ia p q
theorem rJ:∀(p q:Path),fE p q=false->q.length<=p.length
 | _,[],_=>by simp
 | [],_::_,h=>by simp[fE] at h
 | _::p,_::q,h=>by simpa using rJ p q (by simpa[fE] using h)
theorem A2:∀(p q:Path),ia p q=false->q.length<p.length
 | [],_,h=>by simp[ia] at h
 | _::_,[],_=>by simp
 | _::p,_::q,h=>by simpa using A2 p q (by simpa[ia] using h)
def bt(k:Nat)(p:Path):D->Bool
 | .sub j q=>j == k&&fE p q
 | .aq j q=>j == k&&fE p q
 | _=>false
def bb(k:Nat)(p:Path):D->Bool
 | .sub j q=>j == k&&ia p q
 | .aq j q=>j == k&&fE p q
 | _=>false
theorem wF{k:Nat}{p q:Path}(h:bt k p (.sub k q)=false):q.length<=p.length:=rJ p q (by simpa[bt] using h)
theorem wE{k:Nat}{p q:Path}(h:bt k p (.aq k q)=false):q.length<=p.length:=rJ p q (by simpa[bt] using h)
theorem sQ{k:Nat}{p q:Path}(h:bb k p (.sub k q)=false):q.length<p.length:=A2 p q (by simpa[bb] using h)
theorem wG{k:Nat}{p q:Path}(h:bb k p (.aq k q)=false):q.length<=p.length:=rJ p q (by simpa[bb] using h)
theorem A9:∀{p p':Path},p.length=p'.length->∀q,fE p q=fE p' q
 | [],[],_,q=>rfl
 | _::p,_::p',h,[]=>rfl
 | _::p,_::p',h,_::q=>by simpa[fE] using A9 (by simpa using h) q
theorem AZ:∀{p p':Path},p.length=p'.length->∀q,ia p q=ia p' q
 | [],[],_,q=>rfl
 | _::p,_::p',h,[]=>rfl
 | _::p,_::p',h,_::q=>by simpa[ia] using AZ (by simpa using h) q
theorem C8{p p':Path}(h:p.length=p'.length)(k:Nat):bb k p=bb k p':=by
 funext d;cases d<;>simp only[bb,A9 h,AZ h]
def cX(c:D)(p:Path):D:=if bc c p=true then .o .dead else .dead
theorem p8{c:D}{p:Path}(hp:c.aR p)(hne:p≠[]):ei c p (cX c p):=by
 unfold cX;split
 ·rename_i hl
  cases c<;>try exact hp.elim
  case o x=>cases p<;>cases hl
  case row=>exact absurd hp hne
  case box l =>
   cases p with
   | nil=>exact absurd rfl hne
   | cons s p=>cases p with
    | nil=>trivial
    | cons t p=>cases hl
 ·exact J2 hp hne
theorem Ba{c:D}{p r:Path}(h:c.aR (p++r)):c.aR p:=by
 cases c<;>try exact h.elim
 case o x=>exact((kP x p r).1 h).1
 case row z l=>exact List.append_eq_nil_iff.1 h |>.1
 case box l =>
  cases p with
  | nil=>trivial
  | cons s p =>
   obtain⟨i,off⟩:=s;cases p with
   | nil=>exact⟨h.1,h.2.1,trivial⟩
   | cons t p =>
    have h:(D.box l).aR ((i,off)::t::(p++r)):=h;obtain⟨h1,h2,h3⟩:=h;refine⟨h1,h2,?_⟩;simp only at h3|-
    split at h3
    ·rename_i y hy
     exact((kP y (t::p) r).1 h3).1
    ·exact h3.elim
section
variable{w:World}{A:Nat->Prop}{R:Value->D->Prop}{v:Value}{c:D}{F:Nat->Prop}
theorem LI(h:az w A R v F c){p:Path}{s:Nat×Nat}(hp:c.aR (p++[s]))(hne:p≠[]):(bc c p=true->(c.at p).fU=true)/\(c.a8 p).iS s.1 s.2:=by
 cases c<;>try exact hp.elim
 case row z l=>exact absurd (List.append_eq_nil_iff.1 hp).1 hne
 case o x =>
  refine⟨fun hl=>(by cases p<;>cases hl),?_⟩;obtain⟨h1,h2⟩:=(kP x p [s]).1 hp;obtain⟨_,_,_,g1,g2,_⟩:=af.splitAt p h h1;unfold D.a8;rw[D.ky h hne,g2.un.1];exact h2.1
 case box l =>
  obtain⟨_,b,cs,e,Fs,h1,h2,h3,h4,h5,h6,h7⟩:=h;cases p with
  | nil=>exact absurd rfl hne
  | cons t p =>
   obtain⟨i,off⟩:=t;obtain⟨rfl,ho,hp⟩:=hp;have hkid:∀off,(D.box l).aS 0 off=l.getD off .dead:=fun _=>rfl
   have key:∀q:Path,(match p++[s] with | []=>True | s::p=>match l.getD off .dead with | .o y=>y.has (s::p) | _=>False)->∃y,l.getD off .dead=.o y/\y.has (p++[s]):=by
    intro _ hp;cases hps:p++[s] with
    | nil=>simp at hps
    | cons a r =>
     rw[hps] at hp;simp only at hp;split at hp
     ·rename_i y hy;exact⟨y,hy,hp⟩
     ·exact hp.elim
   obtain⟨y,hy,hys⟩:=key [] hp;obtain⟨k1,k2⟩:=(kP y p [s]).1 hys
   have hget:l[off]?=some (.o y):=by
    rw[List.getD_eq_getElem?_getD,List.getElem?_eq_getElem ho] at hy;rw[List.getElem?_eq_getElem ho];simpa using hy
   have hown:=h4 off _ hget;simp only[bG] at hown;cases p with
   | nil =>
    have e:(D.box l).at [(0,off)]=.o y:=hy;refine⟨fun _=>by rw[e];rfl,?_⟩;unfold D.a8;rw[e];exact k2.1
   | cons t p =>
    refine⟨fun hl=>(by cases hl),?_⟩;obtain⟨_,_,_,g1,g2,_⟩:=af.splitAt (t::p) hown k1
    have e:(D.box l).at ((0,off)::t::p)=y.at (t::p):=by
     rw[D.at,hkid,hy,D.ky hown (by simp)]
    unfold D.a8;rw[e,g2.un.1];exact k2.1
theorem CE{u:Value}{F1:Nat->Prop}{p:Path}(g2:eH w A R u F1 (bc c p) (c.at p))(hS:bc c p=true->(c.at p).fU=true):af w A u (c.a8 p) F1:=by
 unfold eH at g2;split at g2
 ·rename_i hl
  obtain⟨y,hy⟩:=vj (hS hl);rw[hy] at g2;simp only[D.a8,hy,D.un];exact g2
 ·simp only[D.a8]
  rw[g2.un.1];exact g2
theorem CD{u:Value}{p:Path}{w':World}{A':Nat->Prop}{R':Value->D->Prop}:eH w' A' R' u (fun _=>False) (bc c p) (cX c p):=by
 unfold eH cX;cases bc c p with
 | true=>exact af.dead
 | false=>exact af.dead
theorem BR(h:az w A R v F c){p:Path}(hp:c.aR p)(hne:p≠[]){a:Addr}(ha:ay w v c p=some a){w':World}(hw:∀b,F b->b≠a.block->w'.heap[b]?=w.heap[b]?){q:Path}(hq:c.aR q) :
  (q.length<p.length->aE w' v c q=aE w v c q)/\(q.length<=p.length->ay w' v c q=ay w v c q):=by
 obtain⟨p0,s,rfl⟩:∃p0 s,p=p0++[s]:=⟨p.dropLast,p.getLast hne,(List.dropLast_concat_getLast hne).symm⟩
 have short:∀q:Path,c.aR q->q.length<=p0.length->aE w' v c q=aE w v c q:=by
  intro q hq hl;by_cases h0:p0=[]
  ·subst h0
   have:q=[]:=List.eq_nil_of_length_eq_zero (by simpa using hl);subst this;rfl
  ·have hp0:=Ba hp
   obtain⟨hS,hk⟩:=LI h hp h0;obtain⟨u,F1,F2,g1,g2,g3,g4,g5,g6,_⟩:=h.splitAt hp0 h0;have hown:=CE g2 hS
   have hab:F1 a.block:=by
    rw[oY w p0 [s] v c (by simp),g1,Option.bind_some] at ha;obtain⟨i,off⟩:=s
    have ha':cT u (c.a8 p0) i off=some a:=by
     have:cT u (c.at p0) i off=cT u (c.a8 p0) i off:=by
      unfold D.a8 cT;by_cases hh:∃z,c.at p0=.o z
      ·obtain⟨z,hz⟩:=hh
       rw[hz];have:(D.o z).un=z:=rfl;rw[this];unfold D.a8 at hown;rw[hz] at hown;have hzz:z.un=z:=hown.un.1;rw[hzz]
      ·have:(c.at p0).un=c.at p0:=by
        generalize c.at p0=z at hh|-
        cases z<;>first | rfl | exact absurd ⟨_,rfl⟩ hh
       rw[this,this]
     rw[<-this];exact ha
    obtain⟨e1,e2,e3,e4⟩:=iZ hown i off;obtain⟨u',G1,G2,k1,k2,k3,k4,k5,k6,k7⟩:=hown.split (e2.1 hk);rw[e3] at ha';exact k4 _ (k7 a ha').1
   have hc0:az w A R v F2 (c.setAt p0 (cX c p0)):=g6 w A R (fun _=>True) _ (fun _=>False) F2 (fun _ h=>h) (fun _ _=>rfl) (fun _ _=>rfl) CD (fun _ h=>h.elim) (p8 hp0 h0) (fun _ h=>h.elim) (fun _ h=>h) (aV (fun _=>trivial) _) (fun _ _ _ h=>h);obtain⟨j1,j2,_⟩:=nb h hp0 h0 hq hl (p8 hp0 h0);have:=(eF (w':=w') hc0 j1 fun b hb=>hw b (g4 b hb) (by rintro rfl;exact g5 _ hab hb)).1;rw[(j2 w').1,(j2 w).1] at this;exact this
 refine⟨fun hl=>short q hq (by simp at hl;omega),fun hl=>?_⟩;cases hq0:q with
 | nil=>rfl
 | cons t r =>
  have hqne:q≠[]:=by rw[hq0];simp
  rw[<-hq0];obtain⟨q0,t',hq'⟩:∃q0 t',q=q0++[t']:=⟨q.dropLast,q.getLast hqne,(List.dropLast_concat_getLast hqne).symm⟩;rw[hq'] at hq hl|-
  rw[oY w' q0 [t'] v c (by simp),oY w q0 [t'] v c (by simp),short q0 (Ba hq) (by simp at hl;omega)];rfl
end
section
variable{cx:Ctx}{ct:Nat->D}{vl:Nat->Value}{fp:Nat->Nat->Prop}{G:Nat->Prop}{w:World}
theorem Hp.take[Mode](h:Hp cx ct vl fp G w){k:Nat}{p:Path}(hp':(ct k).c8 p)(hne:p≠[])(hrefs:∀j,(ct j).refs fun d=>bt k p d=false) :
  ∃(u:Value)(F1 F2:Nat->Prop),aE w (vl k) (ct k) p=some u/\af w (ae cx fp G w) u ((ct k).a8 p) F1/\(∀b,F1 b->fp k b) /\
   Hp cx (aj ct k ((ct k).setAt p (cX (ct k) p))) vl (aj fp k F2) (fun b=>G b\/F1 b) w/\(∀b,F2 b->fp k b)/\∀d,bt k p d=false->cd w w ct (aj ct k ((ct k).setAt p (cX (ct k) p))) vl vl d:=by
 obtain⟨hp,hok⟩:=hp';obtain⟨u,F1,F2,g1,g2,g3,g4,g5,g6,g7⟩:=(h.ok k).splitAt hp hne;have hown:=CE g2 hok;have hkk:=p8 hp hne
 obtain⟨r1,r2⟩:=h.change (fun d=>bt k p d=false) (xn hp hne _) (g6 w (ae cx fp G w) _ (fun _=>True) (cX (ct k) p) (fun _=>False) F2 (fun _ h=>h) (fun _ _=>rfl) (fun _ _=>rfl) CD (fun _ h=>h.elim) hkk (fun _ h=>h.elim) (fun _ h=>h) (aV (fun _=>trivial) _) (fun _ _ _ h=>h))
  (fun j _=>hrefs j) (qt (h.ok k) hp hne (hrefs k) fun hl=>by unfold cX;rw[if_pos hl];trivial) (fun b hb=>.inl (g4 b hb)) (G':=fun b=>G b\/F1 b) (fun b hb=>hb.elim .inr fun h=>.inl (g3 b h)) (fun b hb hg=>hg.elim (h.bh k b (g4 b hb)) fun h=>g5 b h hb)
  rfl (fun _ _=>rfl) rfl rfl (.of rfl rfl)
  (fun q hq hs=>by
    obtain⟨j1,j2,j3⟩:=nb (h.ok k) hp hne hs.1 (wF hq) hkk
    exact⟨j3 (.inr fun hl=>by unfold cX;rw[if_pos hl];rfl) hs,(j2 w).1⟩)
  (fun q hq hs=>by
    obtain⟨j1,j2,j3⟩:=nb (h.ok k) hp hne hs (wE hq) hkk
    exact⟨j1,(j2 w).2⟩)
 exact⟨u,F1,F2,g1,hown,g3,r1,g4,r2⟩
theorem Hp.fill[Mode](h:Hp cx ct vl fp G w){k:Nat}{p:Path}(hp':(ct k).c8 p)(hne:p≠[]){u:Value}(hu:aE w (vl k) (ct k) p=some u){y:D}{Fy G':Nat->Prop}(hy:af w (ae cx fp G w) u y Fy)(hag:y.isAgg=false)
  (hF:∀b,Fy b->G b) (hG:∀b,G' b->G b) (hFG:∀b,Fy b->¬G' b) (hrefs:∀j,(ct j).refs fun d=>bt k p d=false) :
  Hp cx (aj ct k ((ct k).setAt p (if bc (ct k) p=true then .o y else y))) vl (aj fp k fun b=>fp k b\/Fy b) G' w/\∀d,bt k p d=false->cd w w ct (aj ct k ((ct k).setAt p (if bc (ct k) p=true then .o y else y))) vl vl d:=by
 obtain⟨hp,hok⟩:=hp';obtain⟨u',F1,F2,g1,g2,g3,g4,g5,g6,g7⟩:=(h.ok k).splitAt hp hne;rw[hu] at g1;injection g1 with g1
 subst g1
 have hkk:ei (ct k) p (if bc (ct k) p=true then .o y else y):=by
  have nonagg:∀(p:Path)(x:D)(y:D),y.isAgg=false->de x p y:=by
   intro p;induction p with
   | nil=>intro x y _;trivial
   | cons s p ih =>
    intro x y hy;cases p with
    | nil =>
     simp only[de];generalize x.un=z;cases z<;>first | trivial | exact .inr hy
    | cons t p=>exact ih _ y hy
  revert hp;cases ct k<;>intro hp<;>try exact hp.elim
  case row=>exact absurd hp hne
  case o x =>
   have:bc (.o x) p=false:=by cases p<;>rfl
   rw[if_neg (by rw[this];simp)];exact nonagg p x y hag
  case box l =>
   cases p with
   | nil=>exact absurd rfl hne
   | cons s p=>cases p with
    | nil=>trivial
    | cons t p=>exact nonagg (t::p) _ y hag
 have hpart:eH w (ae cx fp G w) (aa w ct vl) u Fy (bc (ct k) p) (if bc (ct k) p=true then .o y else y):=by
  unfold eH;cases bc (ct k) p with
  | true=>exact hy
  | false=>exact hy
 refine h.change (fun d=>bt k p d=false) (xn hp hne _) (g6 w (ae cx fp G w) _ (fun _=>True) _ Fy _ (fun _ h=>h) (fun _ _=>rfl) (fun _ _=>rfl) hpart (fun b hb hb2=>h.bh k b (g4 b hb2) (hF b hb)) hkk (fun _ h=>.inr h) (fun b hb=>.inl (g4 b hb)) (aV (fun _=>trivial) _) (fun _ _ _ h=>h))
  (fun j _=>hrefs j) (qt (h.ok k) hp hne (hrefs k) fun hl=>by rw[if_pos hl];trivial) (fun b hb=>hb.imp id (hF b)) (fun b hb=>.inr (hG b hb)) (fun b hb hg=>hb.elim (fun h'=>h.bh k b h' (hG b hg)) fun h'=>hFG b h' hg)
  rfl (fun _ _=>rfl) rfl rfl (.of rfl rfl)
  (fun q hq hs=>by
    obtain⟨j1,j2,j3⟩:=nb (h.ok k) hp hne hs.1 (wF hq) hkk
    exact⟨j3 (.inr fun hl=>by rw[if_pos hl];rfl) hs,(j2 w).1⟩)
  (fun q hq hs=>by
    obtain⟨j1,j2,j3⟩:=nb (h.ok k) hp hne hs (wE hq) hkk
    exact⟨j1,(j2 w).2⟩)
theorem Hp.store[Mode](h:Hp cx ct vl fp G w){k:Nat}{p:Path}(hp:(ct k).aR p)(hne:p≠[]){a:Addr}(ha:ay w (vl k) (ct k) p=some a){u':Value}{y:D}{Fy G':Nat->Prop}
  (hy:eH w (ae cx fp G w) (aa w ct vl) u' Fy (bc (ct k) p) y) (hd:ei (ct k) p y) (hrefs:∀j,(ct j).refs fun d=>bb k p d=false) (hyr:bc (ct k) p=true->y.refs fun d=>bb k p d=false)
  (hF:∀b,Fy b->G b) (hG:∀b,G' b->G b) (hFG:∀b,Fy b->¬G' b) :
  (∃u,w.cell? a=some u)/\w.frozen? a=false/\a.spot=none/\Hp cx (aj ct k ((ct k).setAt p y)) vl (aj fp k fun b=>fp k b\/Fy b) G' (w.setCell a u') /\
    ∀d,bb k p d=false->cd w (w.setCell a u') ct (aj ct k ((ct k).setAt p y)) vl vl d:=by
 obtain⟨u,F1,F2,g1,g2,g3,g4,g5,g6,g7⟩:=(h.ok k).splitAt hp hne;obtain⟨j1,j2,j3,j3',j4⟩:=g7 a ha;refine⟨⟨u,j3⟩,j3',j2,?_⟩;have hab:fp k a.block:=g4 _ j1;have hother:∀b,b≠a.block->(w.setCell a u').heap[b]?=w.heap[b]?:=fun b hb=>xp u' hb
 refine h.change (fun d=>bb k p d=false) (xn hp hne _) (j4 u' (w.setCell a u') (ae cx fp G w) (aa w ct vl) (fun _=>True) y Fy (fun b=>fp k b\/Fy b) (fun _ h=>h) (fun b hb=>hother b (by rintro rfl;exact hb.2.2 k hab)) (fun b _ hne=>hother b hne) rfl ?_ ?_ hd (fun _ h=>.inr h) (fun b hb=>.inl (g4 b hb)) (aV (fun _=>trivial) _) (fun _ _ _ h=>h))
  (fun j _=>hrefs j) (qt (h.ok k) hp hne (hrefs k) hyr) (fun b hb=>hb.imp id (hF b)) (fun b hb=>.inr (hG b hb)) (fun b hb hg=>hb.elim (fun h'=>h.bh k b h' (hG b hg)) fun h'=>hFG b h' hg)
  (by simp) (fun b hb=>hother b (by rintro rfl;exact hb hab)) rfl rfl (.of rfl rfl)
  (fun q hq hs=>by
    obtain⟨i1,i2,i3⟩:=nb (h.ok k) hp hne hs.1 (Nat.le_of_lt (sQ hq)) hd;obtain⟨m1,_⟩:=BR (h.ok k) hp hne ha (w':=w.setCell a u') (fun b _ hb=>hother b hb) hs.1
    exact⟨i3 (.inl (sQ hq)) hs,by rw[(i2 _).1];exact m1 (sQ hq)⟩)
  (fun q hq hs=>by
    obtain⟨i1,i2,i3⟩:=nb (h.ok k) hp hne hs (wG hq) hd;obtain⟨_,m2⟩:=BR (h.ok k) hp hne ha (w':=w.setCell a u') (fun b _ hb=>hother b hb) hs
    exact⟨i1,by rw[(i2 _).2];exact m2 (wG hq)⟩)
 ·have hFa:∀b,Fy b->b≠a.block:=by rintro b hb rfl;exact h.bh k _ hab (hF _ hb)
  have aI:∀b,ae cx fp G w b->b≠a.block:=by rintro b hb rfl;exact hb.2.2 k hab
  unfold eH at hy|-
  split
  ·rename_i hl
   rw[hl] at hy;exact hy.mono (Q:=fun _=>True) (fun _ h=>h) (fun b hb=>hother b (aI b hb)) (fun b hb=>hother b (hFa b hb)) (fun _ h=>h) (aV (fun _=>trivial) _) (fun _ _ _ h=>h)
  ·rename_i hl
   rw[hl] at hy;exact hy.mono (fun _ h=>h) (fun b hb=>hother b (aI b hb)) (fun b hb=>hother b (hFa b hb)) (fun _ h=>h)
 ·intro b hb hb2
  exact h.bh k b (g4 b hb2) (hF b hb)
end
end Go.D3
namespace Go.D3
open Go
inductive Arg where
 | v (x:D)
 | own (x:D)
 | io (x y:D)
def Arg.pre(w:World)(A:Nat->Prop)(v:Value)(F:Nat->Prop):Arg->Prop
 | .v x=>Rd w A v x/\∀b,¬F b
 | .own x=>af w A v x F
 | .io x _=>az w A (fun _ _=>False) v F x
def Arg.post(w:World)(A:Nat->Prop)(v:Value)(F:Nat->Prop):Arg->Prop
 | .io _ y=>az w A (fun _ _=>False) v F y
 | _=>∀b,¬F b
def aD[Mode](P:Program)(f:FuncId)(as:List Arg)(res:D):Prop :=
 ∀(w:World)(A:Nat->Prop)(vs:Array Value)(Fs:Nat->Nat->Prop),ck w A->(∀b,A b->b<w.heap.size)->vs.size=as.length->(∀(j:Nat)(a:Arg),as[j]?=some a->a.pre w A (vs.getD j undef) (Fs j)) ->
  (∀i j b,i≠j->Fs i b->¬Fs j b)->(∀j b,Fs j b->b<w.heap.size/\¬A b/\j<as.length) ->
  Calls P f vs w fun e w'=>∃(v:Value)(F:Nat->Prop)(Fs':Nat->Nat->Prop),e=.returned v/\w.heap.size<=w'.heap.size /\
   af w' (fun b=>A b\/(w.heap.size<=b/\b<w'.heap.size/\¬F b/\∀j,¬Fs' j b)) v res F /\
   (∀(j:Nat)(a:Arg),as[j]?=some a->a.post w' (fun b=>A b\/(w.heap.size<=b/\b<w'.heap.size/\¬F b/\∀j,¬Fs' j b)) (vs.getD j undef) (Fs' j)) /\
   (∀b,F b->b<w'.heap.size/\(w.heap.size<=b\/∃j,Fs j b)/\∀j,¬Fs' j b)/\(∀j b,Fs' j b->b<w'.heap.size/\(w.heap.size<=b\/∃j,Fs j b)/\j<as.length)/\(∀i j b,i≠j->Fs' i b->¬Fs' j b) /\
   (∀b,b<w.heap.size->(∀j,¬Fs j b)->w'.heap[b]?=w.heap[b]?)/\w'.os=w.os/\w'.tape=w.tape/\bQ w w'
inductive X where
 | t (i:Nat)
 | v (j:Nat)
 | i (n:Int)
 | k (d:D)
 | g (n:Nat)
 deriving Inhabited
inductive Kp where
 | mv (x:X)
 | pick (c a b:X)
 | bin (op:BinOp) (x y:X)
 | nD (op:BinOp) (x y:X)
 | not (x:X)
 | conv(k:IntKind) (x:X)
 | len (x:X)
 | nV (x:X)
 | ee (sz:Nat) (x i:X)
 | ld (a:X)
 | mu (n:Nat) (a:X)
 | fA (off:Nat) (a:X)
 | nO (off:Nat) (x:X)
 | nP (off n:Nat) (x:X)
 | kz (zs:List D) (parts:List (Nat×Nat×X))
 | nR (x i:X)
 | ext (i:Nat) (x:X)
 | dc (x:X)
 | eqs (neg:Bool) (ks:List Nat) (x y:X)
 | nf (x:X) (lo hi:Option X)
 | sl (x:X) (lo hi:Option X)
 | nZ (f:FuncId) (caps:List X)
 | call (f:FuncId) (xs:List X)
 | box (n:Nat) (x:X)
 | eK (n:Nat) (x:X)
 | dO (zs:List D)
 | al (z:D) (bytes:Nat) (l c:X)
 | dP (z:D) (n:Nat) (parts:List (Nat×X))
 | bY (j:Nat) (x:X)
 | gT (j:Nat) (x:X)
 | st (a x:X)
 | gf (n:Nat) (a x:X)
 | jn (n:Nat) (a x:X)
 | app (sz bytes:Nat) (s x:X)
 | gj (f:FuncId) (xs:List X)
 | dyn (x:X) (xs:List X)
 | bo (x:X)
 | cQ (x y:X)
 | jx (n:Nat) (x:X)
 | dw (sz bytes b s:Nat)
 | fB (f:FuncId) (xs:List X)
 | fk
 | mA (ok:Bool) (kk:Nat) (z:D) (m k:X)
 | mw (x:X)
 | jR (kk:Nat) (m k v:X)
 | ma (x:X)
 | od (neg:Bool) (x:X)
 | fq (x:X)
 | jT (j:Nat)
 | fg (x:X)
 | jw (z:D) (x:X)
 | gW (j:Nat) (x:X)
 | shr (x y:X)
 | mm (mx:Bool) (x y:X)
 | mD (neg:Bool) (x:X)
 | nY (t:TypeId) (x:X)
 deriving Inhabited
structure aO where
 g:Option (Nat×Bool)
 k:Kp
 deriving Inhabited
def oL:List Kp->List aO
 | []=>[]
 | k::r=>⟨none,k⟩::oL r
def Kp.m(i:Nat):Kp:=.mv (.v i)
def Kp.n(i:Nat):Kp:=.mv (.t i)
def Kp.a(j i:Nat):Kp:=.bY j (.t i)
inductive RT where
 | leaf (l:List aO) (post:List (Nat×Nat))
 | two (i j:Nat) (pm:List Nat) (a b:RT)
 deriving Inhabited
inductive C where
 | skip
 | ops (pre:List Nat) (l:List aO) (post:List (Nat×Nat))
 | om (pre:List Nat) (l:List aO) (post:List (Nat×Nat)) (x:X) (a b:C)
 | sF (pre:List Nat) (l:List aO) (post:List (Nat×Nat)) (x:X) (a b c:C)
 | alt (pre:List Nat) (t:RT)
 | seq (a b:C)
 | cond (x:X) (a b:C)
 | block (id:Nat) (c:C)
 | loop (c:C)
 | exit (id:Nat)
 | ret
 deriving Inhabited
def C.u(l:List Kp):C:=.ops [] (oL l) []
def D.core:D->D
 | .when _ x=>x.core
 | x=>x
def D.gate:D->Bool
 | .when g x=>g&&x.gate
 | _=>true
mutual
def cw(k:Nat)(p:Path):D->D
 | .int a n=>.int a n
 | .bool b=>.bool b
 | .str s=>.str s
 | .aF=>.aF
 | .fn f []=>.fn f []
 | .slice _ _=>.sub k p
 | .mp _ _=>.sub k p
 | .bw=>.bw
 | .bq t x=>.bq t x
 | .bl=>.bl
 | .ptr (_::_)=>.aq k (p++[(0,0)])
 | .agg l=>.agg (hZ k p 0 l)
 | .au l=>.au (hZ k p 0 l)
 | .vw x=>x
 | _=>.dead
def hZ(k:Nat)(p:Path)(j:Nat):List D->List D
 | []=>[]
 | x::r=>cw k (p++[(0,j)]) x::hZ k p (j+1) r
end
def bB(k:Nat):D->D
 | .o x=>cw k [] x
 | .box _=>.aq k [(0,0)]
 | .row _ _=>.sub k []
 | c=>c
def pr(k:Nat)(p:Path):D->D
 | .o x=>cw k p x
 | c=>c
def my(k:Nat)(c:D)(p:Path):D :=
 match bc c p with
 | true=>pr k p (c.at p)
 | false=>cw k p (c.at p)
abbrev PR:=Prop×D
def one(x:D):Option PR:=some (True,x)
def FX(k:IntKind)(a b:Int):Int:=k.wrap (BitVec.ofInt k.bits a &&& BitVec.ofInt k.bits b).toNat
def fi(op:BinOp)(k:IntKind)(a b:Int):Option PR :=
 match op with
 | .add=>some (True,.int k (k.wrap (a+b)))
 | .sub=>some (True,.int k (k.wrap (a-b)))
 | .mul=>some (True,.int k (k.wrap (a*b)))
 | .quo=>some (b≠0,.int k (k.wrap (a.tdiv b)))
 | .rem=>some (b≠0,.int k (a.tmod b))
 | .eql=>some (True,.bool (a == b))
 | .neq=>some (True,.bool (a != b))
 | .lss=>some (True,.bool (decide (a<b)))
 | .leq=>some (True,.bool (decide (a<=b)))
 | .gtr=>some (True,.bool (decide (a > b)))
 | .geq=>some (True,.bool (decide (a>=b)))
 | .and=>some (True,.int k (FX k a b))
 | _=>none
def iE(op:BinOp)(a b:List UInt8):Option PR :=
 match op with
 | .add=>some (a.length+b.length<=maxLen,.str (a++b))
 | .eql=>some (True,.bool (a == b))
 | .neq=>some (True,.bool (!(a == b)))
 | .lss=>some (True,.bool (Op.bytesLess a b))
 | .leq=>some (True,.bool (Op.bytesLess a b || a == b))
 | .gtr=>some (True,.bool (!(Op.bytesLess a b || a == b)))
 | .geq=>some (True,.bool (!Op.bytesLess a b))
 | _=>none
def nF(op:BinOp)(a b:Bool):Option PR :=
 match op with
 | .eql=>some (True,.bool (a == b))
 | .neq=>some (True,.bool (!(a == b)))
 | _=>none
def ph(op:BinOp)(x y:D):Option PR :=
 match x,y with
 | .int k a,.int k' b=>if k=k' then fi op k a b else none
 | .str a,.str b=>iE op a b
 | _,_=>none
def tq(x y:D):Option PR :=
 match x,y with
 | .int k a,.int _ b=>some (0<=b/\b<=k.bits,.int k (a.fdiv (2 ^ b.toNat)))
 | _,_=>none
def jQ:Bool->Int->Int->Int
 | true,a,b=>max a b
 | false,a,b=>min a b
def si(mx:Bool)(x y:D):Option PR :=
 match x,y with
 | .int k a,.int k' b=>if k=k' then some (True,.int k (jQ mx a b)) else none
 | _,_=>none
def rb(op:BinOp)(x y:D):Option PR :=
 match x,y with
 | .bool a,.bool b=>nF op a b
 | _,_=>none
def lr(c a b:Bool):Bool:=match c with | true=>a | false=>b
def sL(cg ag bg:Bool)(c a b:D):Option PR :=
 match c,a,b with
 | .bool cb,.bool x,.bool y=>some (cg=true/\(cb=true->ag=true)/\(cb=false->bg=true),.bool (lr cb x y))
 | _,_,_=>none
def sr(x:D):Option PR :=
 match x with
 | .bool b=>one (.bool (!b))
 | _=>none
def rk(k:IntKind)(x:D):Option PR :=
 match x with
 | .int k0 a=>one (.int k (if k0=k then a else k.wrap a))
 | _=>none
def D.bM:D->Option Nat
 | .slice _ l=>some l.length
 | .aM _=>some 0
 | .row _ l=>some l.length
 | _=>none
def lk(ob:Nat->D)(k:Nat):Option D:=if(ob k).isObj=true then some (ob k) else none
def jc(ob:Nat->D)(x:D):Option PR :=
 match x with
 | .sub k p=>(lk ob k).bind fun c=>(c.a8 p).bM.bind fun n=>one (.int .i64 n)
 | x=>x.bM.bind fun n=>one (.int .i64 n)
def rW(x:D):Option PR :=
 match x with
 | .str s=>one (.int .i64 s.length)
 | _=>none
def D.gG(d:D)(i:Nat):List D :=
 match d with
 | .slice z l=>(l.getD i z).cells
 | _=>[]
def kR(sz:Nat)(ob:Nat->D)(x i:D):Option PR :=
 match i with
 | .int _ n=>match x with
  | .sub k p=>(lk ob k).bind fun c=>match c with
   | .row _ _=>none
   | c=>(c.a8 p).bM.bind fun m=>some (0<=n/\n<m/\((c.a8 p).gG n.toNat).length=sz,.aq k (p++[(n.toNat,0)]))
  | x=>x.bM.bind fun m=>some (0<=n/\n<m/\(x.gG n.toNat).length=sz,.ptr (x.gG n.toNat))
 | _=>none
def kV(ob:Nat->D)(a:D):Option PR :=
 match a with
 | .ptr (x::_)=>one x
 | .aq k p=>(lk ob k).bind fun c=>one (my k c p)
 | _=>none
def bump:Path->Nat->Path
 | [],_=>[]
 | [(i,off)],n=>[(i,off+n)]
 | s::p,n=>s::bump p n
def looks(k:Nat)(c:D)(p:Path):Nat->Nat->List D
 | 0,_=>[]
 | n+1,j=>my k c (bump p j)::looks k c p n (j+1)
def pJ(c:D)(p:Path):Nat->Nat->Prop
 | 0,_=>True
 | n+1,j=>c.aR (bump p j)/\pJ c p n (j+1)
def kW(n:Nat)(ob:Nat->D)(a:D):Option PR :=
 match a with
 | .ptr l=>some (n<=l.length,.agg (l.take n))
 | .aq k p=>(lk ob k).bind fun c=>some (pJ c p n 0,.agg (looks k c p n 0))
 | _=>none
def kJ(off:Nat)(ob:Nat->D)(a:D):Option PR :=
 match a with
 | .ptr l=>one (.ptr (l.drop off))
 | .aq k p=>(lk ob k).bind fun c=>some (c.aR (bump p off),.aq k (bump p off))
 | _=>none
def rE(off:Nat)(x:D):Option PR :=
 match x with
 | .agg l=>some (off<l.length,l.getD off .dead)
 | _=>none
def rF(off n:Nat)(x:D):Option PR :=
 match x with
 | .agg l=>some (off+n<=l.length,.agg ((l.drop off).take n))
 | _=>none
def D.cellsOf:D->Option (List D)
 | .agg l=>some l
 | .au _=>none
 | .dead=>none
 | .when _ _=>none
 | .o _=>none
 | .box _=>none
 | .row _ _=>none
 | .vw _=>none
 | x=>some [x]
def setCells(l:List D)(off:Nat):List D->List D
 | []=>l
 | x::r=>setCells (l.set off x) (off+1) r
def kL(rd:X->D):List D->List (Nat×Nat×X)->Option (Bool×List D)
 | cs,[]=>some (true,cs)
 | cs,(off,n,x)::r=>(rd x).core.cellsOf.bind fun l =>
  if l.length=n/\off+n<=cs.length then(kL rd (setCells cs off l) r).bind fun p=>some ((rd x).gate&&p.1,p.2) else none
def rM(x i:D):Option PR :=
 match x,i with
 | .str s,.int _ n=>some (0<=n/\n<s.length,.int .u8 (s.getD n.toNat 0).toNat)
 | _,_=>none
def rC(i:Nat)(x:D):Option PR :=
 match x with
 | .au l=>some (i<l.length,l.getD i .dead)
 | _=>none
def kZ(x:D):Option PR :=
 match x with
 | .ptr l=>one (.ptr l)
 | .aq k p=>one (.aq k p)
 | .fn f caps=>one (.fn f caps)
 | _=>none
def fR:List Nat->List D->List D->Option Bool
 | [],[],[]=>some true
 | 0::ks,.int k a::l,.int k' b::r=>if k=k' then(fR ks l r).bind fun y=>some (a == b&&y) else none
 | 1::ks,.bool a::l,.bool b::r=>(fR ks l r).bind fun y=>some (a == b&&y)
 | 2::ks,.str a::l,.str b::r=>(fR ks l r).bind fun y=>some (a == b&&y)
 | _,_,_=>none
def rA(neg:Bool)(ks:List Nat)(x y:D):Option PR :=
 match x,y with
 | .agg l,.agg r=>(fR ks l r).bind fun b=>some (True,.bool (if neg then !b else b))
 | _,_=>none
def D.cut(l h:Nat):D->Option D
 | .slice z x=>some (.slice z ((x.take h).drop l))
 | .aM z=>some (.slice z [])
 | .str x=>some (.str ((x.take h).drop l))
 | _=>none
def D.fC:D->Nat
 | .slice z _=>z.cells.length
 | .aM z=>z.cells.length
 | _=>0
def D.int?:D->Option Int
 | .int _ n=>some n
 | _=>none
def D.lJ:D->Option (List UInt8)
 | .str s=>some s
 | _=>none
def iL(rd:X->D)(dflt:Nat):Option X->Option (Bool×Int)
 | none=>some (true,dflt)
 | some x=>(rd x).core.int?.bind fun n=>some ((rd x).gate,n)
def xz(rd:X->D)(x:X)(lo hi:Option X):Option PR :=
 (rd x).core.lJ.bind fun s=>(iL rd 0 lo).bind fun p=>(iL rd s.length hi).bind fun q =>
   some (((rd x).gate=true/\p.1=true/\q.1=true)/\0<=p.2/\p.2<=q.2/\q.2<=s.length,.str ((s.take q.2.toNat).drop p.2.toNat))
def lL:D->Option X->Option (Nat×Path)
 | .sub k p,none=>some (k,p)
 | _,_=>none
theorem Ou{d:D}{lo:Option X}{k:Nat}{p:Path}(h:lL d lo=some (k,p)):d=.sub k p/\lo=none:=by
 unfold lL at h;split at h
 ·injection h with h;injection h with h1 h2;subst h1;subst h2;exact⟨rfl,rfl⟩
 ·cases h
def tw(rd:X->D)(ob:Nat->D)(x:X)(lo hi:Option X):Option PR:=(lL (rd x).core lo).elim
 ((rd x).core.bM.bind fun n=>(iL rd 0 lo).bind fun p=>(iL rd n hi).bind fun q=>((rd x).core.cut p.2.toNat q.2.toNat).bind fun z =>
   some (((rd x).gate=true/\p.1=true/\q.1=true)/\(rd x).core.fC=1/\0<=p.2/\p.2<=q.2/\q.2<=n,z))
 fun k=>(lk ob k.1).bind fun c=>(c.a8 k.2).bM.bind fun n=>(iL rd n hi).bind fun q =>
  some (((rd x).gate=true/\q.1=true)/\(c.a8 k.2).fC=1/\0<=q.2/\q.2<=n,.pre k.1 k.2 q.2.toNat)
def D.oX:D->Option D
 | .aq k p=>some (.aq k p)
 | .ptr l=>some (.ptr l)
 | _=>none
def kD(rd:X->D):List X->Option (List D)
 | []=>some []
 | x::r=>(rd x).oX.bind fun y=>(kD rd r).bind fun l=>some (y::l)
def g1(x:D):Option PR->Option PR
 | some (s,d)=>some (x.gate=true/\s,d)
 | none=>none
def g2(x y:D):Option PR->Option PR
 | some (s,d)=>some ((x.gate=true/\y.gate=true)/\s,d)
 | none=>none
def jK(a b:D):Option Bool :=
 match a,b with
 | .int k a,.int k' b=>if k=k' then some (a == b) else none
 | .str a,.str b=>some (a == b)
 | .bool a,.bool b=>some (a == b)
 | _,_=>none
def eu(k:D):List D->Option (Option Nat)
 | []=>some none
 | e::r=>(jK k e).bind fun b=>if b=true then some (some 0) else(eu k r).bind fun o=>some (o.map (·+1))
def D.il:D->Option (List D×List D)
 | .mp ks vs=>some (ks,vs)
 | _=>none
def D.n9:D->Option (List D×List D)
 | .mp ks vs=>some (ks,vs)
 | .bw=>some ([],[])
 | _=>none
def mapOf(ob:Nat->D)(x:D):Option (List D×List D) :=
 match x with
 | .sub k p=>(lk ob k).bind fun c=>(c.a8 p).il
 | x=>x.n9
def D.ig(kk:Nat):D->Bool
 | .int _ _=>kk == 0
 | .bool _=>kk == 1
 | .str _=>kk == 2
 | _=>false
def gL(z:D)(vs:List D):Option Nat->D
 | some i=>vs.getD i z
 | none=>z
def se(ok:Bool)(kk:Nat)(z:D)(ob:Nat->D)(m k:D):Option PR :=
 (mapOf ob m).bind fun e=>(eu k e.1).bind fun r=>some (k.ig kk=true,match ok with | true=>.au [gL z e.2 r,.bool r.isSome] | false=>gL z e.2 r)
def rV(ob:Nat->D)(x:D):Option PR:=(mapOf ob x).bind fun e=>some (True,.int .i64 e.1.length)
def b6(k v:D)(ks vs:List D):Option Nat->List D×List D
 | some i=>(ks,vs.set i v)
 | none=>(ks++[k],vs++[v])
def bytesOf:List D->Option (List UInt8)
 | []=>some []
 | .int .u8 n::r=>(bytesOf r).bind fun l=>some (UInt8.ofNat n.toNat::l)
 | _=>none
def D.jy:D->Option (List UInt8)
 | .slice _ l=>bytesOf l
 | .row _ l=>bytesOf l
 | .aM _=>some []
 | _=>none
def nL(ob:Nat->D)(x:D):Option PR :=
 match x with
 | .sub k p=>(lk ob k).bind fun c=>(c.a8 p).jy.bind fun s=>one (.str s)
 | x=>x.jy.bind fun s=>one (.str s)
def oe(neg:Bool)(x:D):Option PR :=
 match x with
 | .bl=>some (True,.bool (!neg))
 | .bq _ _=>some (True,.bool neg)
 | _=>none
def ur(s:List UInt8):D:=.slice (.int .u8 0) (s.map fun b=>.int .u8 b.toNat)
def pV(neg:Bool)(ob:Nat->D)(x:D):Option PR :=
 match x with
 | .aM _=>some (True,.bool (!neg))
 | x=>(jc ob x).bind fun p=>match p.2 with
  | .int _ n=>some (0<n,.bool neg)
  | _=>none
def vz(t:TypeId)(x:D):Option PR :=
 match x with
 | .agg [.str s]=>some (True,.bq t (.agg [.str s]))
 | _=>none
def bn(k:Kp)(rd:X->D)(ob:Nat->D):Option PR :=
 match k with
 | .mv x=>g1 (rd x) (one (rd x).core)
 | .pick c a b=>sL (rd c).gate (rd a).gate (rd b).gate (rd c).core (rd a).core (rd b).core
 | .bin op x y=>g2 (rd x) (rd y) (ph op (rd x).core (rd y).core)
 | .shr x y=>g2 (rd x) (rd y) (tq (rd x).core (rd y).core)
 | .mm mx x y=>g2 (rd x) (rd y) (si mx (rd x).core (rd y).core)
 | .nD op x y=>g2 (rd x) (rd y) (rb op (rd x).core (rd y).core)
 | .not x=>g1 (rd x) (sr (rd x).core)
 | .conv k x=>g1 (rd x) (rk k (rd x).core)
 | .len x=>g1 (rd x) (jc ob (rd x).core)
 | .nV x=>g1 (rd x) (rW (rd x).core)
 | .ee sz x i=>g2 (rd x) (rd i) (kR sz ob (rd x).core (rd i).core)
 | .ld a=>g1 (rd a) (kV ob (rd a).core)
 | .mu n a=>g1 (rd a) (kW n ob (rd a).core)
 | .fA off a=>g1 (rd a) (kJ off ob (rd a).core)
 | .nO off x=>g1 (rd x) (rE off (rd x).core)
 | .nP off n x=>g1 (rd x) (rF off n (rd x).core)
 | .kz zs parts=>(kL rd zs parts).bind fun p=>some (p.1=true,.agg p.2)
 | .nR x i=>g2 (rd x) (rd i) (rM (rd x).core (rd i).core)
 | .ext i x=>g1 (rd x) (rC i (rd x).core)
 | .dc x=>g1 (rd x) (kZ (rd x).core)
 | .eqs neg ks x y=>g2 (rd x) (rd y) (rA neg ks (rd x).core (rd y).core)
 | .nf x lo hi=>xz rd x lo hi
 | .sl x lo hi=>tw rd ob x lo hi
 | .nZ f caps=>(kD rd caps).bind fun l=>some (True,.fn f l)
 | .mA ok kk z m k=>g2 (rd m) (rd k) (se ok kk z ob (rd m).core (rd k).core)
 | .mw x=>g1 (rd x) (rV ob (rd x).core)
 | .ma x=>g1 (rd x) (nL ob (rd x).core)
 | .od neg x=>g1 (rd x) (oe neg (rd x).core)
 | .mD neg x=>g1 (rd x) (pV neg ob (rd x).core)
 | .nY t x=>g1 (rd x) (vz t (rd x).core)
 | _=>none
end Go.D3
