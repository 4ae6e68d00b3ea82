/- CALLS THAT CHANGE NOTHING THAT WAS THERE. Generic. -/
import Derived.Test.YtgieggnpnepkfaaGreatDoorBoxo
import Derived.Test.YtgieggnpnepkfaaGreatDoorApt
namespace Go.D3
open Go
theorem ren_congr {σ σ':Nat→Nat} {n:Nat} (hσ:∀ i,i<n→σ i=σ' i) (c:D):c.refs (inB n)→c.ren σ=c.ren σ':=by
 have go:∀ l:List D,(∀ x∈l,x.refs (inB n)→x.ren σ=x.ren σ')→refsL (inB n) l→renL σ l=renL σ' l:=by
  intro l
  induction l with
  | nil=>intro _ _;rfl
  | cons x r ih =>
   intro hx hq
   rw [renL,renL,hx x (by simp) hq.1,ih (fun y hy=>hx y (by simp [hy])) hq.2]
 induction c using D.ind with
 | sub k p=>intro h;simp only [D.ren];rw [hσ k h]
 | adr k p=>intro h;simp only [D.ren];rw [hσ k h]
 | pre k p m=>intro h;simp only [D.ren];rw [hσ k h]
 | fn f l ih=>intro h;simp only [D.ren];rw [go l ih h]
 | agg l ih=>intro h;simp only [D.ren];rw [go l ih h]
 | tup l ih=>intro h;simp only [D.ren];rw [go l ih h]
 | box l ih=>intro h;simp only [D.ren];rw [go l ih h]
 | row z l _ ih=>intro h;simp only [D.ren];rw [go l ih h]
 | when g x ih=>intro h;simp only [D.ren];rw [ih h]
 | _=>intro _;rfl
def inJ (js:List Nat):D→Prop
 | .sub k _=>k∈js
 | .adr k _=>k∈js
 | _=>True
theorem ren_inJ {σ:Nat→Nat} {js:List Nat} {n:Nat} (hσ:∀ i,i<n→σ i∈js) (c:D):c.refs (inB n)→(c.ren σ).refs (inJ js):=by
 have go:∀ l:List D,(∀ x∈l,x.refs (inB n)→(x.ren σ).refs (inJ js))→refsL (inB n) l→refsL (inJ js) (renL σ l):=by
  intro l
  induction l with
  | nil=>intro _ _;trivial
  | cons x r ih=>intro hx hq;exact ⟨hx x (by simp) hq.1,ih (fun y hy=>hx y (by simp [hy])) hq.2⟩
 induction c using D.ind with
 | sub k p=>exact fun h=>hσ k h
 | adr k p=>exact fun h=>hσ k h
 | pre k p m=>exact fun h=>hσ k h
 | fn f l ih=>exact go l ih
 | agg l ih=>exact go l ih
 | tup l ih=>exact go l ih
 | box l ih=>exact go l ih
 | row z l _ ih=>exact go l ih
 | when g x ih=>exact ih
 | _=>intro _;trivial
theorem lendO_get {ob:Nat→D} {σ:Nat→Nat}:∀ {js:List Nat} {gs:List D},lendO ob σ js gs→js.length=gs.length∧∀ (i:Nat) (h:i<js.length),js[i]<1000∧ob js[i]=(nth gs i).ren σ
 | [],[],_=>⟨rfl,fun i h=>by simp at h⟩
 | [],_::_,h=>h.elim
 | _::_,[],h=>h.elim
 | j::js,g::gs,⟨h1,h2⟩=>by
  obtain ⟨h3,h4⟩:=lendO_get h2
  refine ⟨by simp [h3],fun i hi=>?_⟩
  cases i with
  | zero=>exact h1
  | succ i=>exact h4 i (by simpa using hi)
theorem argO_get {σ:Nat→Nat}:∀ {ds as:List D},argO σ ds as→ds.length=as.length∧∀ (j:Nat) (a:D),as[j]?=some a→ds[j]?=some (a.ren σ)
 | [],[],_=>⟨rfl,fun j a h=>by simp at h⟩
 | [],_::_,h=>h.elim
 | _::_,[],h=>h.elim
 | d::ds,a::as,⟨h1,h2⟩=>by
  obtain ⟨h3,h4⟩:=argO_get h2
  refine ⟨by simp [h3],fun j b hj=>?_⟩
  cases j with
  | zero=>simp at hj ⊢;rw [← hj];exact h1
  | succ j=>simpa using h4 j b (by simpa using hj)
theorem lendO_mono {ob ob':Nat→D} (h:∀ j,j<1000→ob j=ob' j) {σ:Nat→Nat}:∀ {js:List Nat} {gs:List D},lendO ob σ js gs→lendO ob' σ js gs
 | [],[],h=>h
 | [],_::_,h=>h.elim
 | _::_,[],h=>h.elim
 | j::js,g::gs,⟨⟨h1,h2⟩,h3⟩=>⟨⟨h1,by rw [← h j h1];exact h2⟩,lendO_mono h h3⟩
theorem KOk.mono {P:Program} {f:FuncId} {ob ob':Nat→D} (h:∀ j,j<1000→ob j=ob' j) {ds:List D} {c:D}:KOk P f ob ds c→KOk P f ob' ds c :=
 fun ⟨js,as,gs,rc,h1,h2,h3,h4⟩=>⟨js,as,gs,rc,h1,h2,lendO_mono h h3,h4⟩
section
variable {P:Program} {cx:Ctx} {ct:Nat→D} {vl:Nat→Value} {fp:Nat→Nat→Prop} {G:Nat→Prop} {w:World}
theorem callk_hp (h:Hp cx ct vl fp G w) {vs:Array Value} {ds:List D} (hvs:vs.size=ds.length) (hds:∀ (j:Nat) (d:D),ds[j]?=some d→Pl w (stab cx fp G w) (RefOk w ct vl) (vs.getD j undef) d)
  {f:FuncId} {ob:Nat→D} {c:D} (hob:∀ j,j<1000→ob j=ct j) (hv:KOk P f ob ds c) :
  Calls P f vs w fun e w'=>∃ v,e=.returned v∧Ext w w'∧ContOk w' (newA (stab cx fp G w) w w' fun _=>False) (RefOk w ct vl) v (fun _=>False) c∧c.isObj=false:=by
 obtain ⟨js,as,gs,rc,⟨hbody,hR⟩,hnd,hlend,harg,⟨hra,hrg,hrr⟩,hok,rfl⟩:=hv
 obtain ⟨hl1,hl2⟩:=lendO_get (lendO_mono hob hlend)
 obtain ⟨ha1,ha2⟩:=argO_get harg
 let σ:Nat→Nat:=fun i=>(js[i]?).getD (1000+i)
 have σin:∀ (i:Nat) (hi:i<js.length),σ i=js[i]:=fun i hi=>by simp [σ,hi]
 have σout:∀ i,js.length≤i→σ i=1000+i:=fun i hi=>by simp [σ,hi]
 have hσ:∀ i,i<js.length→sj js i=σ i:=fun i hi=>by rw [σin i hi];simp [sj,hi]
 have hmem:∀ i,i<js.length→σ i∈js:=fun i hi=>by rw [σin i hi];exact List.getElem_mem hi
 have hinj:∀ i j,σ i=σ j→i=j:=by
  intro i j hij
  by_cases hi:i<js.length<;>by_cases hj:j<js.length
  ·rw [σin i hi,σin j hj] at hij
   have hp:=List.pairwise_iff_getElem.1 hnd
   rcases Nat.lt_trichotomy i j with hlt | hlt | hlt
   ·exact absurd hij (hp i j hi hj hlt)
   ·exact hlt
   ·exact absurd hij.symm (hp j i hj hi hlt)
  ·rw [σin i hi,σout j (by omega)] at hij
   have:=(hl2 i hi).1;omega
  ·rw [σout i (by omega),σin j hj] at hij
   have:=(hl2 j hj).1;omega
  ·rw [σout i (by omega),σout j (by omega)] at hij;omega
 classical
 let ct':Nat→D:=fun k=>if k∈js then ct k else .dead
 have hnl:∀ i,(nth gs i).refs (inB js.length):=fun i=>by
  by_cases hi:i<gs.length
  ·exact nth_refs i hrg
  ·rw [nth_over gs i (by omega)];trivial
 have hct:∀ i,ct' (σ i)=(nth gs i).ren σ:=fun i=>by
  by_cases hi:i<js.length
  ·show (if σ i∈js then ct (σ i) else _)=_
   rw [if_pos (hmem i hi),σin i hi,(hl2 i hi).2,ren_congr hσ _ (hnl i)]
  ·have hno:σ i ∉ js:=fun hm=>by
    obtain ⟨k,hk,he⟩:=List.getElem_of_mem hm
    have:=(hl2 k hk).1
    rw [σout i (by omega)] at he;omega
   show (if σ i∈js then ct (σ i) else _)=_
   rw [if_neg hno,nth_over gs i (by omega)];rfl
 have h1:∀ v d,d.refs (inJ js)→RefOk w ct vl v d→RefOk w ct' vl v d:=by
  intro v d hd hr
  cases d<;>first | exact hr.elim | (simp only [RefOk,AdrOk,ct'] at hr ⊢;rw [if_pos (show _∈js from hd)];exact hr)
 have h2:∀ v d,d.refs (inJ js)→RefOk w ct' vl v d→RefOk w ct vl v d:=by
  intro v d hd hr
  cases d<;>first | exact hr.elim | (simp only [RefOk,AdrOk,ct'] at hr ⊢;rw [if_pos (show _∈js from hd)] at hr;exact hr)
 refine (hR w (stab cx fp G w) vs (fun i=>vl (σ i)) (fun i b=>i<js.length∧fp (σ i) b) h.gl (fun b hb=>hb.1.1) (by rw [hvs,ha1]) (fun j a hj=>?_) (fun k=>?_) (fun k hk b hb=>?_) (fun i j b hij hi hj=>h.dis _ _ (fun he=>hij (hinj _ _ he)) b hi.2 hj.2)
  (fun k b hk=>⟨(h.lt _ b hk.2).1,fun hb=>hb.2.2 _ hk.2⟩)).mono ?_
 ·have hra':=refsL_iff.1 hra a (List.mem_of_getElem? hj)
  have:=hds j _ (ha2 j a hj)
  rw [ren_congr hσ _ hra'] at this
  have h3:=this.mono (Q:=inJ js) (R':=RefOk w ct' vl) (fun _ h=>h) (fun _ _=>rfl) (ren_inJ hmem _ hra') h1
  exact h3.unren hinj hct fun _ _=>rfl
 ·by_cases hk:k<js.length
  ·have:=h.ok (σ k)
   have he:ct (σ k)=(nth gs k).ren σ:=by rw [← hct k];show _=(if σ k∈js then ct (σ k) else _);rw [if_pos (hmem k hk)]
   rw [he] at this
   have h3:=this.mono (Q:=inJ js) (R':=RefOk w ct' vl) (fun _ h=>h) (fun _ _=>rfl) (fun _ _=>rfl) (fun b hb=>(⟨hk,hb⟩:k<js.length∧fp (σ k) b)) (ren_inJ hmem _ (hnl k)) h1
   exact h3.unren hinj hct fun _ _=>rfl
  ·rw [nth_over gs k (by omega)];exact Pl.dead
 ·refine h.emp (σ k) ?_ b hb.2
  have he:ct (σ k)=(nth gs k).ren σ:=by rw [← hct k];show _=(if σ k∈js then ct (σ k) else _);rw [if_pos (hmem k hb.1)]
  rw [he,isObj_ren];exact hk
 rintro e w' ⟨v,rfl,hsz,hsame,hpl,hos,htape,hout⟩
 rw [ren_congr hσ _ hrr]
 refine ⟨v,rfl,⟨hsz,hsame,hos,htape,hout⟩,?_,okc_obj (okc_ren hok)⟩
 have h3:Pl w' (fun b=>stab cx fp G w b∨(w.heap.size≤b∧b<w'.heap.size)) (RefOk w ct' vl) v (rc.ren σ) :=
  hpl.ren (Q:=fun _=>True) (σ:=σ) (R':=RefOk w ct' vl) (refs_all (fun _=>trivial) _) fun v d _ hr=>hr.ren (fun i _=>hct i) fun i _=>rfl
 have h4:=h3.mono (Q:=inJ js) (w':=w') (A':=newA (stab cx fp G w) w w' fun _=>False) (R':=RefOk w ct vl) (fun b hb=>hb.imp id fun hh=>⟨hh.1,hh.2,fun h=>h⟩) (fun _ _=>rfl) (ren_inJ hmem _ hrr) h2
 exact (okc_cont (okc_ren hok)).2 h4
theorem callk_sound {o:Oper} {a:Act} {ds:List (Option Nat)} {tr:List Nat} {rd:X→D} {Q:Exit→Act→World→Prop} (h:Hp cx ct vl fp G w) {f:FuncId} {xs:List X} (hk:isK P ds tr o (.callk f xs)=true)
  (hx:∀ y,y∈xs→∀ x,isX ds tr x y=true→PlG w (stab cx fp G w) (RefOk w ct vl) (a.eval x) (rd y)) (hgt:gates rd xs=true) {ob:Nat→D} {c:D} (hob:∀ j,j<1000→ob j=ct j) (hv:KOk P f ob (rdsL rd xs) c) {K:Act→World→Prop}
  (hK:∀ (v:Value) (w':World),Ext w w'→ContOk w' (newA (stab cx fp G w) w w' fun _=>False) (RefOk w ct vl) v (fun _=>False) c→c.isObj=false→K (a.put o.dst v) w'):o.wp P a w K Q:=by
 simp only [isK] at hk
 split at hk<;>try (cases hk;done)
 rename_i f' as hop
 obtain ⟨ts,ho⟩:=opCall_s hop
 simp only [Bool.and_eq_true,beq_iff_eq] at hk
 obtain ⟨⟨rfl,hk1⟩,hk2⟩:=hk
 obtain ⟨h1,h2⟩:=rds_ok (rd:=rd) hk1 hx hgt
 unfold Oper.wp
 rw [call_run ho hk2,Oper.upon_enter]
 refine (callk_hp (vs:=(as.map a.eval).toArray) h (by simp [h1]) (fun j d hj=>by simpa using h2 j d hj) hob hv).mono ?_
 rintro e w' ⟨v,rfl,q1,q2,q3⟩
 exact hK v w' q1 q2 q3
end
end Go.D3
