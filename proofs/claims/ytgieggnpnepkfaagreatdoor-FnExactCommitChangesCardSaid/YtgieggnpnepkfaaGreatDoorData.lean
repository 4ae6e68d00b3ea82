/- DATA,HOW VALUES READ AS DATA ('Rd'),TREES THAT ONE OWNER HAS ('Own'). Generic: no program in sight. -/
import Derived.Calls
import Derived.Laws.World
import GoSem.ClaimData
namespace Go.D3
open Go
abbrev Path:=List (Nat×Nat)
inductive D where
 | int (k:IntKind) (n:Int)
 | bool (b:Bool)
 | str (s:List UInt8)
 | slice (z:D) (l:List D)
 | agg (l:List D)
 | tup (l:List D)
 | ptr (l:List D)
 | nilp
 | fn (f:FuncId) (caps:List D)
 | vw (x:D)
 | o (x:D)
 | box (l:List D)
 | row (z:D) (l:List D)
 | sub (k:Nat) (p:Path)
 | adr (k:Nat) (p:Path)
 | pre (k:Nat) (p:Path) (n:Nat)
 | when (g:Bool) (x:D)
 | nils (z:D)
 | dead
 | mp (ks vs:List D)
 | nmp
 | ifc (t:TypeId) (x:D)
 | nifc
 | itr (s:List UInt8) (pos:Nat)
 | sent (n:Nat)
 deriving Inhabited
def D.cells:D→List D
 | .agg l=>l
 | d=>[d]
def D.isAgg:D→Bool
 | .agg _=>true
 | _=>false
theorem D.cells_one {d:D} (h:d.isAgg=false):d.cells=[d]:=by
 cases d<;>simp [D.isAgg] at h<;>rfl
def cellAt (L:List D) (sz:Nat) (j:Nat):Option D:=(L[j / sz]?).bind fun (d:D)=>d.cells[j % sz]?
theorem cellAt_lt {L:List D} {sz j:Nat} {x:D} (hz : 0<sz) (h:cellAt L sz j=some x):j<L.length*sz:=by
 unfold cellAt at h
 cases hL:L[j / sz]? with
 | none=>simp [hL] at h
 | some d=>exact (Nat.div_lt_iff_lt_mul hz).1 (List.getElem?_eq_some_iff.1 hL).1
theorem cellAt_some {L:List D} {sz j:Nat} (hz : 0<sz) (hsz:∀ x∈L,x.cells.length=sz) (h:j<L.length*sz):∃ x,cellAt L sz j=some x:=by
 have hlt:j / sz<L.length:=(Nat.div_lt_iff_lt_mul hz).2 h
 have hl:=hsz L[j / sz] (List.getElem_mem hlt)
 have hmod:=Nat.mod_lt j hz
 have hm':j % sz<(L[j / sz]).cells.length:=by omega
 exact ⟨(L[j / sz]).cells[j % sz],by simp [cellAt,List.getElem?_eq_getElem hlt,List.getElem?_eq_getElem hm']⟩
inductive Sc:Value→D→Prop
 | int {k:IntKind} {n:Int} (h:k.has n):Sc (.int k n) (.int k n)
 | bool {b:Bool}:Sc (.bool b) (.bool b)
 | str {s:List UInt8} (h:s.length≤maxLen):Sc (.string ⟨s.toArray⟩) (.str s)
 | agg {cs:Array Value} {l:List D} (hs:cs.size=l.length) (hr:∀ j x,l[j]?=some x→Sc (cs.getD j undef) x):Sc (.agg cs) (.agg l)
def MapE (es:Array MapEntry) (ks vs:List D):Prop :=
 (es.size=ks.length∧vs.length=ks.length∧ks.length≤maxLen)∧(∀ (j:Nat) (e:MapEntry) (k:D),es[j]?=some e→ks[j]?=some k→Sc e.key k)∧∀ (j:Nat) (e:MapEntry) (v:D),es[j]?=some e→vs[j]?=some v→Sc e.val v
inductive Rd (w:World) (A:Nat→Prop):Value→D→Prop
 | int {k:IntKind} {n:Int} (h:k.has n):Rd w A (.int k n) (.int k n)
 | bool {b:Bool}:Rd w A (.bool b) (.bool b)
 | str {s:List UInt8} (h:s.length≤maxLen):Rd w A (.string ⟨s.toArray⟩) (.str s)
 | nil {z:D}:Rd w A (.slice none 0 0) (.slice z [])
 | empty {z:D} {p:Addr} {cap:Nat} (hm:cap≤maxLen):Rd w A (.slice (some p) 0 cap) (.slice z [])
 | slice {z:D} {L:List D} {b off cap sz:Nat} (hA:A b) (hc:L.length≤cap) (hm:cap≤maxLen) (hz : 0<sz) (hzz:z.cells.length=sz)
   (hsz:∀ x∈L,x.cells.length=sz)
   (vs:Nat→Value) (hcells:∀ j x,cellAt L sz j=some x→w.cell? ⟨b,off+j,none⟩=some (vs j))
   (hr:∀ j x,cellAt L sz j=some x→Rd w A (vs j) x):Rd w A (.slice (some ⟨b,off,none⟩) L.length cap) (.slice z L)
 | agg {cs:Array Value} {l:List D} (hs:cs.size=l.length) (hr:∀ j x,l[j]?=some x→Rd w A (cs.getD j undef) x):Rd w A (.agg cs) (.agg l)
 | tup {cs:Array Value} {l:List D} (hs:cs.size=l.length) (hr:∀ j x,l[j]?=some x→Rd w A (cs.getD j undef) x):Rd w A (.tuple cs) (.tup l)
 | ptr {b off:Nat} {l:List D} (hA:A b) (vs:Nat→Value) (hcells:∀ j x,l[j]?=some x→w.cell? ⟨b,off+j,none⟩=some (vs j))
   (hr:∀ j x,l[j]?=some x→Rd w A (vs j) x):Rd w A (.pointer (some ⟨b,off,none⟩)) (.ptr l)
 | nilp:Rd w A (.pointer none) .nilp
 | fn {f:FuncId} {cs:Array Value} {l:List D} (hs:cs.size=l.length) (hr:∀ j x,l[j]?=some x→Rd w A (cs.getD j undef) x):Rd w A (.func (.func f) #[] cs) (.fn f l)
 | vw {v:Value} {d:D} (h:Rd w A v d):Rd w A v (.vw d)
 | o {v:Value} {d:D} (h:Rd w A v d):Rd w A v (.o d)
 | nils {z:D}:Rd w A (.slice none 0 0) (.nils z)
 | dead {v:Value}:Rd w A v .dead
 | mp {ks vs:List D} {r clock:Nat} {es:Array MapEntry} (hA:A r) (hb:w.heap[r]?=some (.map es clock)) (hE:MapE es ks vs):Rd w A (.map (some r)) (.mp ks vs)
 | nmp:Rd w A (.map none) .nmp
 | ifc {t:TypeId} {v:Value} {d:D} (h:Rd w A v d):Rd w A (.iface t v) (.ifc t d)
 | nifc:Rd w A .nilIface .nifc
 | itr {s:List UInt8} {pos r:Nat} (hA:A r) (hb:w.heap[r]?=some (.stringIter ⟨s.toArray⟩ pos)) (hs:s.length≤maxLen):Rd w A (.pointer (some ⟨r,0,none⟩)) (.itr s pos)
 | sent {n:Nat} {t:TypeId} {a:Addr} (hA:A n) (hc:w.cell? ⟨n,0,none⟩=some (.iface t (.pointer (some a)))):Rd w A (.pointer (some a)) (.sent n)
theorem cell_of_heap {w w':World} {b off:Nat} (h:w'.heap[b]?=w.heap[b]?):w'.cell? ⟨b,off,none⟩=w.cell? ⟨b,off,none⟩:=by
 simp [World.cell?,h]
theorem Rd.mono {w w':World} {A A':Nat→Prop} {v:Value} {d:D} (h:Rd w A v d) (hA:∀ b,A b→A' b) (hw:∀ b,A b→w'.heap[b]?=w.heap[b]?):Rd w' A' v d:=by
 induction h with
 | int h=>exact .int h
 | bool=>exact .bool
 | str h=>exact .str h
 | nil=>exact .nil
 | empty h=>exact .empty h
 | slice hAb hc hm hz hzz hsz vs hcells _ ih =>
  exact .slice (hA _ hAb) hc hm hz hzz hsz vs (fun j x hx=>by rw [cell_of_heap (hw _ hAb)];exact hcells j x hx) ih
 | agg hs _ ih=>exact .agg hs ih
 | tup hs _ ih=>exact .tup hs ih
 | ptr hAb vs hcells _ ih =>
  exact .ptr (hA _ hAb) vs (fun j x hx=>by rw [cell_of_heap (hw _ hAb)];exact hcells j x hx) ih
 | nilp=>exact .nilp
 | fn hs _ ih=>exact .fn hs ih
 | vw _ ih=>exact .vw ih
 | o _ ih=>exact .o ih
 | nils=>exact .nils
 | dead=>exact .dead
 | mp hAr hb hE=>exact .mp (hA _ hAr) (by rw [hw _ hAr];exact hb) hE
 | nmp=>exact .nmp
 | ifc _ ih=>exact .ifc ih
 | nifc=>exact .nifc
 | itr hAr hb hs=>exact .itr (hA _ hAr) (by rw [hw _ hAr];exact hb) hs
 | sent hAn hc=>exact .sent (hA _ hAn) (by rw [cell_of_heap (hw _ hAn)];exact hc)
inductive Own (w:World) (A:Nat→Prop):Value→D→(Nat→Prop)→Prop
 | int {k:IntKind} {n:Int} {F:Nat→Prop} (h:k.has n):Own w A (.int k n) (.int k n) F
 | bool {b:Bool} {F:Nat→Prop}:Own w A (.bool b) (.bool b) F
 | str {s:List UInt8} {F:Nat→Prop} (h:s.length≤maxLen):Own w A (.string ⟨s.toArray⟩) (.str s) F
 | nil {z:D} {F:Nat→Prop}:Own w A (.slice none 0 0) (.slice z []) F
 | nilp {F:Nat→Prop}:Own w A (.pointer none) .nilp F
 | fn {f:FuncId} {F:Nat→Prop}:Own w A (.func (.func f) #[] #[]) (.fn f []) F
 | vw {v:Value} {d:D} {F:Nat→Prop} (h:Rd w A v d):Own w A v (.vw d) F
 | dead {v:Value} {F:Nat→Prop}:Own w A v .dead F
 | mp {ks vs:List D} {r clock:Nat} {es:Array MapEntry} {F:Nat→Prop} (hF:F r) (hb:w.heap[r]?=some (.map es clock)) (hE:MapE es ks vs):Own w A (.map (some r)) (.mp ks vs) F
 | nmp {F:Nat→Prop}:Own w A (.map none) .nmp F
 | ifc {t:TypeId} {v:Value} {d:D} {F:Nat→Prop} (h:Rd w A v d):Own w A (.iface t v) (.ifc t d) F
 | nifc {F:Nat→Prop}:Own w A .nilIface .nifc F
 | itr {s:List UInt8} {pos r:Nat} {F:Nat→Prop} (hF:F r) (hb:w.heap[r]?=some (.stringIter ⟨s.toArray⟩ pos)) (hs:s.length≤maxLen):Own w A (.pointer (some ⟨r,0,none⟩)) (.itr s pos) F
 | slice {z:D} {L:List D} {b off cap sz:Nat} {cs:Array Value} {e:TypeId} {fz:Nat×Nat} {F:Nat→Prop} (Fs:Nat→Nat→Prop) (hb:w.heap[b]?=some (.cells cs e fz))
   (hroom:off+cap*sz≤cs.size∧(fz.2≤fz.1∨cs.size≤fz.1)) (hc:L.length≤cap) (hm:cap≤maxLen) (hz : 0<sz) (hzz:z.cells.length=sz)
   (hsz:∀ x∈L,x.cells.length=sz)
   (hr:∀ j x,cellAt L sz j=some x→Own w A (cs.getD (off+j) undef) x (Fs j)) (hF:F b)
   (hfs:∀ j c,Fs j c→c≠b∧F c) (hdis:∀ i j c,i≠j→Fs i c→¬ Fs j c) :
   Own w A (.slice (some ⟨b,off,none⟩) L.length cap) (.slice z L) F
 | agg {cs:Array Value} {l:List D} {F:Nat→Prop} (Fs:Nat→Nat→Prop) (hs:cs.size=l.length) (hr:∀ j x,l[j]?=some x→Own w A (cs.getD j undef) x (Fs j))
   (hfs:∀ j c,Fs j c→F c) (hdis:∀ i j c,i≠j→Fs i c→¬ Fs j c):Own w A (.agg cs) (.agg l) F
 | tup {cs:Array Value} {l:List D} {F:Nat→Prop} (Fs:Nat→Nat→Prop) (hs:cs.size=l.length) (hr:∀ j x,l[j]?=some x→Own w A (cs.getD j undef) x (Fs j))
   (hfs:∀ j c,Fs j c→F c) (hdis:∀ i j c,i≠j→Fs i c→¬ Fs j c):Own w A (.tuple cs) (.tup l) F
 | ptr {b:Nat} {l:List D} {cs:Array Value} {e:TypeId} {F:Nat→Prop} (Fs:Nat→Nat→Prop) (hb:w.heap[b]?=some (.cells cs e (0,0))) (hs:cs.size=l.length)
   (hr:∀ j x,l[j]?=some x→Own w A (cs.getD j undef) x (Fs j)) (hF:F b)
   (hfs:∀ j c,Fs j c→c≠b∧F c) (hdis:∀ i j c,i≠j→Fs i c→¬ Fs j c):Own w A (.pointer (some ⟨b,0,none⟩)) (.ptr l) F
theorem getD_some {cs:Array Value} {j:Nat} (h:j<cs.size):cs[j]?=some (cs.getD j undef):=by
 simp [h]
theorem cell_own {w:World} {b j:Nat} {cs:Array Value} {e:TypeId} {fz:Nat×Nat} (hb:w.heap[b]?=some (.cells cs e fz)) (h:j<cs.size):w.cell? ⟨b,j,none⟩=some (cs.getD j undef):=by
 simp [World.cell?,hb,h]
theorem Own.rd {w:World} {A A':Nat→Prop} {v:Value} {d:D} {F:Nat→Prop} (h:Own w A v d F):(∀ b,A b→A' b)→(∀ b,F b→A' b)→Rd w A' v d:=by
 induction h with
 | int h=>exact fun _ _=>.int h
 | bool=>exact fun _ _=>.bool
 | str h=>exact fun _ _=>.str h
 | nil=>exact fun _ _=>.nil
 | nilp=>exact fun _ _=>.nilp
 | fn=>exact fun _ _=>.fn rfl (fun j x hx=>by simp at hx)
 | vw h=>exact fun hA _=>.vw (h.mono hA fun _ _=>rfl)
 | dead=>exact fun _ _=>.dead
 | mp hF hb hE=>exact fun _ hA'=>.mp (hA' _ hF) hb hE
 | nmp=>exact fun _ _=>.nmp
 | ifc h=>exact fun hA _=>.ifc (h.mono hA fun _ _=>rfl)
 | nifc=>exact fun _ _=>.nifc
 | itr hF hb hs=>exact fun _ hA'=>.itr (hA' _ hF) hb hs
 | @slice z L b off cap sz cs e fz F Fs hb hroom hc hm hz hzz hsz hr hF hfs hdis ih =>
  intro hA hA'
  refine .slice (hA' _ hF) hc hm hz hzz hsz (fun j=>cs.getD (off+j) undef) (fun j x hx=>?_) (fun j x hx=>ih j x hx hA fun c hc'=>hA' c (hfs j c hc').2)
  have hj:=cellAt_lt hz hx
  have h1:L.length*sz≤cap*sz:=Nat.mul_le_mul_right _ hc
  exact cell_own hb (by omega)
 | agg Fs hs _ hfs hdis ih=>exact fun hA hA'=>.agg hs fun j x hx=>ih j x hx hA fun c hc=>hA' c (hfs j c hc)
 | tup Fs hs _ hfs hdis ih=>exact fun hA hA'=>.tup hs fun j x hx=>ih j x hx hA fun c hc=>hA' c (hfs j c hc)
 | @ptr b l cs e F Fs hb hs hr hF hfs hdis ih =>
  intro hA hA'
  refine .ptr (hA' _ hF) (fun j=>cs.getD j undef) (fun j x hx=>?_) (fun j x hx=>ih j x hx hA fun c hc'=>hA' c (hfs j c hc').2)
  have hj:=(List.getElem?_eq_some_iff.1 hx).1
  rw [Nat.zero_add]
  exact cell_own hb (by omega)
theorem Own.mono {w w':World} {A A':Nat→Prop} {v:Value} {d:D} {F:Nat→Prop} (h:Own w A v d F) :
  ∀ {F':Nat→Prop},(∀ b,A b→A' b)→(∀ b,A b→w'.heap[b]?=w.heap[b]?)→(∀ b,F b→w'.heap[b]?=w.heap[b]?)→(∀ b,F b→F' b)→Own w' A' v d F':=by
 induction h with
 | int h=>exact fun _ _ _ _=>.int h
 | bool=>exact fun _ _ _ _=>.bool
 | str h=>exact fun _ _ _ _=>.str h
 | nil=>exact fun _ _ _ _=>.nil
 | nilp=>exact fun _ _ _ _=>.nilp
 | fn=>exact fun _ _ _ _=>.fn
 | vw h=>exact fun hA hw _ _=>.vw (h.mono hA hw)
 | dead=>exact fun _ _ _ _=>.dead
 | mp hF hb hE=>exact fun _ _ hw hFF=>.mp (hFF _ hF) (by rw [hw _ hF];exact hb) hE
 | nmp=>exact fun _ _ _ _=>.nmp
 | ifc h=>exact fun hA hw _ _=>.ifc (h.mono hA hw)
 | nifc=>exact fun _ _ _ _=>.nifc
 | itr hF hb hs=>exact fun _ _ hw hFF=>.itr (hFF _ hF) (by rw [hw _ hF];exact hb) hs
 | slice Fs hb hroom hc hm hz hzz hsz _ hF hfs hdis ih =>
  exact fun hA hwA hw hFF=>.slice Fs (by rw [hw _ hF];exact hb) hroom hc hm hz hzz hsz (fun j x hx=>ih j x hx hA hwA (fun c hc'=>hw c (hfs j c hc').2) fun c hc'=>hc') (hFF _ hF) (fun j c hc'=>⟨(hfs j c hc').1,hFF _ (hfs j c hc').2⟩) hdis
 | agg Fs hs _ hfs hdis ih =>
  exact fun hA hwA hw hFF=>.agg Fs hs (fun j x hx=>ih j x hx hA hwA (fun c hc'=>hw c (hfs j c hc')) fun c hc'=>hc') (fun j c hc'=>hFF _ (hfs j c hc')) hdis
 | tup Fs hs _ hfs hdis ih =>
  exact fun hA hwA hw hFF=>.tup Fs hs (fun j x hx=>ih j x hx hA hwA (fun c hc'=>hw c (hfs j c hc')) fun c hc'=>hc') (fun j c hc'=>hFF _ (hfs j c hc')) hdis
 | ptr Fs hb hs _ hF hfs hdis ih =>
  exact fun hA hwA hw hFF=>.ptr Fs (by rw [hw _ hF];exact hb) hs (fun j x hx=>ih j x hx hA hwA (fun c hc'=>hw c (hfs j c hc').2) fun c hc'=>hc') (hFF _ hF) (fun j c hc'=>⟨(hfs j c hc').1,hFF _ (hfs j c hc').2⟩) hdis
def D.un:D→D
 | .o d=>d
 | d=>d
def D.kidT:D→Nat→Nat→D
 | .slice z l,i,off=>(l.getD i z).cells.getD off .dead
 | .row z l,i,off=>(l.getD i z).cells.getD off .dead
 | .ptr l,_,off=>l.getD off .dead
 | .box l,_,off=>l.getD off .dead
 | .agg l,_,off=>l.getD off .dead
 | .tup l,_,off=>l.getD off .dead
 | _,_,_=>.dead
def D.kid (x:D) (i off:Nat):D:=x.un.kidT i off
def okCell (e y:D):Prop:=e.isAgg=true∨y.isAgg=false
def setc (e:D) (off:Nat) (y:D):D :=
 match e with
 | .agg l=>.agg (l.set off y)
 | _=>y
def D.setKidT:D→Nat→Nat→D→D
 | .slice z l,i,off,y=>.slice z (l.set i (setc (l.getD i z) off y))
 | .row z l,i,off,y=>.row z (l.set i (setc (l.getD i z) off y))
 | .ptr l,_,off,y=>.ptr (l.set off y)
 | .box l,_,off,y=>.box (l.set off y)
 | .agg l,_,off,y=>.agg (l.set off y)
 | .tup l,_,off,y=>.tup (l.set off y)
 | d,_,_,_=>d
def D.okKidT:D→Nat→D→Prop
 | .slice z l,i,y=>okCell (l.getD i z) y
 | .row z l,i,y=>okCell (l.getD i z) y
 | _,_,_=>True
def D.setKid (x:D) (i off:Nat) (y:D):D :=
 match x with
 | .o d=>.o (d.setKidT i off y)
 | d=>d.setKidT i off y
def D.hasKidT:D→Nat→Nat→Prop
 | .slice z l,i,off=>i<l.length∧off<z.cells.length
 | .row z l,i,off=>i<l.length∧off<z.cells.length
 | .ptr l,i,off=>i=0∧off<l.length
 | .box l,i,off=>i=0∧off<l.length
 | .agg l,i,off=>i=0∧off<l.length
 | .tup l,i,off=>i=0∧off<l.length
 | _,_,_=>False
def D.hasKid (x:D) (i off:Nat):Prop:=x.un.hasKidT i off
def D.at (x:D):Path→D
 | []=>x
 | (i,off)::p=>(x.kid i off).at p
def D.setAt (x:D):Path→D→D
 | [],y=>y
 | (i,off)::p,y=>x.setKid i off ((x.kid i off).setAt p y)
def D.has (x:D):Path→Prop
 | []=>True
 | (i,off)::p=>x.hasKid i off∧(x.kid i off).has p
def kidAT (v:Value):D→Nat→Nat→Option Addr
 | .slice z _,i,off=>match v with
  | .slice (some a) _ _=>some ⟨a.block,a.off+(i*z.cells.length+off),none⟩
  | _=>none
 | .row z _,i,off=>match v with
  | .slice (some a) _ _=>some ⟨a.block,a.off+(i*z.cells.length+off),none⟩
  | _=>none
 | .ptr _,_,off=>match v with
  | .pointer (some a)=>some ⟨a.block,a.off+off,none⟩
  | _=>none
 | .box _,_,off=>match v with
  | .pointer (some a)=>some ⟨a.block,a.off+off,none⟩
  | _=>none
 | _,_,_=>none
def kidA (v:Value) (x:D) (i off:Nat):Option Addr:=kidAT v x.un i off
def kidVT (w:World) (v:Value):D→Nat→Nat→Option Value
 | .agg _,_,off=>match v with
  | .agg cs=>some (cs.getD off undef)
  | _=>none
 | .tup _,_,off=>match v with
  | .tuple cs=>some (cs.getD off undef)
  | _=>none
 | x,i,off=>(kidAT v x i off).bind w.cell?
def kidV (w:World) (v:Value) (x:D) (i off:Nat):Option Value:=kidVT w v x.un i off
def valAt (w:World) (v:Value) (x:D):Path→Option Value
 | []=>some v
 | (i,off)::p=>(kidV w v x i off).bind fun u=>valAt w u (x.kid i off) p
def adrAt (w:World) (v:Value) (x:D):Path→Option Addr
 | []=>none
 | [(i,off)]=>kidA v x i off
 | (i,off)::p=>(kidV w v x i off).bind fun u=>adrAt w u (x.kid i off) p
theorem cellAt_kid {z:D} {L:List D} {sz i off:Nat} (hz:z.cells.length=sz) (hsz:∀ x∈L,x.cells.length=sz) (hi:i<L.length) (ho:off<sz) :
  cellAt L sz (i*sz+off)=some ((D.slice z L).kidT i off):=by
 have hpos : 0<sz:=by omega
 have e1:(i*sz+off) / sz=i:=by
  rw [Nat.mul_comm,Nat.mul_add_div hpos,Nat.div_eq_of_lt ho];omega
 have e2:(i*sz+off) % sz=off:=by
  rw [Nat.mul_comm,Nat.mul_add_mod,Nat.mod_eq_of_lt ho]
 have hl:=hsz L[i] (List.getElem_mem hi)
 simp only [cellAt,e1,e2,D.kidT,List.getElem?_eq_getElem hi,Option.bind_some]
 simp only [List.getD_eq_getElem?_getD,List.getElem?_eq_getElem hi,Option.getD_some]
 rw [List.getElem?_eq_getElem (by omega)]
 rfl
theorem setc_cells {e y:D} {off:Nat} (hy:okCell e y) (ho:off<e.cells.length):(setc e off y).cells=e.cells.set off y:=by
 cases e
 case agg l=>rfl
 all_goals
  simp only [D.cells,List.length_cons,List.length_nil] at ho
  have:off=0:=by omega
  subst this
  simp only [setc,D.cells_one (hy.resolve_left (by simp [D.isAgg]))]
  rfl
theorem cellAt_set {z:D} {L:List D} {sz i off j:Nat} {y:D} (hzz:z.cells.length=sz) (hsz:∀ x∈L,x.cells.length=sz) (hy:okCell (L.getD i z) y) (hi:i<L.length) (ho:off<sz) :
  cellAt (L.set i (setc (L.getD i z) off y)) sz j=if j=i*sz+off then some y else cellAt L sz j:=by
 have hpos : 0<sz:=by omega
 have hLi:L.getD i z=L[i]:=by rw [List.getD_eq_getElem?_getD,List.getElem?_eq_getElem hi];rfl
 have hl:=hsz L[i] (List.getElem_mem hi)
 unfold cellAt
 by_cases hji:j / sz=i
 ·have hj:j=i*sz+j % sz:=by
   have:=Nat.div_add_mod j sz
   rw [hji,Nat.mul_comm] at this
   omega
  rw [hji,List.getElem?_set_self hi,Option.bind_some,setc_cells hy (by rw [hLi];omega),hLi,List.getElem?_eq_getElem hi,Option.bind_some]
  have hm:=Nat.mod_lt j hpos
  by_cases h2:j % sz=off
  ·rw [if_pos (by omega),h2,List.getElem?_set_self (by omega)]
  ·rw [if_neg (by omega),List.getElem?_set_ne (Ne.symm h2)]
 ·rw [List.getElem?_set_ne (Ne.symm hji)]
  rw [if_neg]
  rintro rfl
  apply hji
  rw [Nat.mul_comm,Nat.mul_add_div hpos,Nat.div_eq_of_lt ho];omega
theorem set_sizes {z:D} {L:List D} {sz i off:Nat} {y:D} (hsz:∀ x∈L,x.cells.length=sz) (hy:okCell (L.getD i z) y) (hi:i<L.length) (ho:off<sz) :
  ∀ x∈L.set i (setc (L.getD i z) off y),x.cells.length=sz:=by
 intro x hx
 have hLi:L.getD i z=L[i]:=by rw [List.getD_eq_getElem?_getD,List.getElem?_eq_getElem hi];rfl
 have hl:=hsz L[i] (List.getElem_mem hi)
 rcases List.mem_or_eq_of_mem_set hx with h | h
 ·exact hsz x h
 ·rw [h,setc_cells hy (by rw [hLi];omega),List.length_set,hLi,hl]
end Go.D3
