/- APPENDING to a result that nothing refers to,whatever else there is. Generic. -/
import Derived.Test.YtgieggnpnepkfaaGreatDoorAppHp
namespace Go.D3
open Go
section
variable {P:Program} {cx:Ctx} {vl:Nat→Value} {fp:Nat→Nat→Prop} {G:Nat→Prop} {w:World} {A:Nat→Prop}
theorem apt_scal {ct:Nat→D} {v:Value} {c:D} (h:Pl w A (RefOk w ct vl) v c) (hs:c.scal=true) (A':Nat→Prop):Own w A' v c (fun _=>False)∧v.oneCell'=true:=by
 cases c<;>try (cases hs;done)
 case int=>obtain ⟨rfl,h1⟩:=pl_int h;exact ⟨.int h1,rfl⟩
 case bool=>have:=pl_bool h;subst this;exact ⟨.bool,rfl⟩
 case str=>obtain ⟨rfl,h1⟩:=pl_str h;exact ⟨.str h1,rfl⟩
theorem app_at {ct:Nat→D} (h:Hp cx ct vl fp G w) {kb ke ks:Nat} {z z0:D} {L l:List D} (hb:ct kb=.o (.slice z L)) (hks:ct ks=.row z0 l) (hl:∀ e∈l,e.scal=true) (hke:ct ke=.dead) (hnr:∀ k,(ct k).refs (notInto kb))
  {t ty e:TypeId} {i:TypeInfo} {zv:Value} (ht:P.underlying t=some (.slice e)) (hi:P.info? e=some i) (hz:i.zero=some zv) (hzs:zv.cells.size=i.size) (hsz:i.size=1) (hby : 0<i.bytes) (hbd:(L.length+l.length)*i.bytes≤140737488355328)
  (hesz:(D.slice z L).esz=i.size) :
  ∃ v' w',(Builtin.append_ #[t,t] ty #[vl kb,vl ks]).run P w=.ok v' w'∧∃ fp' G',Hp cx (upd (upd ct kb .dead) ke (.o ((D.slice z L).appL l))) (upd vl ke v') fp' G' w':=by
 have hcells:∀ {x:D},x.scal=true→x.cells=[x]:=fun {x} hx=>by cases x<;>first | rfl | cases hx
 have hkk:kb≠ke:=fun hh=>by rw [hh,hke] at hb;cases hb
 have hown:Own w (stab cx fp G w) (vl kb) (.slice z L) (fp kb):=by have:=h.ok kb;rw [hb] at this;exact this
 have h2:=h.drop kb hnr (vl kb)
 have ev:upd vl kb (vl kb)=vl:=by funext j;simp only [upd];split<;>simp_all
 rw [ev] at h2
 have hst:∀ b,stab cx fp G w b→stab cx (upd fp kb fun _=>False) (fun b=>G b∨fp kb b) w b:=by
  rintro b ⟨h1,h2,h3⟩
  refine ⟨h1,fun hg=>hg.elim h2 (h3 kb),fun j hj=>?_⟩
  by_cases hjk:j=kb
  ·subst hjk;rw [upd_same] at hj;exact hj
  ·rw [upd_ne _ _ hjk] at hj;exact h3 j hj
 have hok:=h.ok ks
 rw [hks] at hok
 obtain ⟨b,szr,cs,e0,q1,q2,q3,q4,q5,q6,q7,q8,q9⟩:=hok
 have hszr:l≠[]→szr=1:=fun hne=>by
  cases l with
  | nil=>exact absurd rfl hne
  | cons a r =>
   have e1:=q7 a (by simp)
   rw [hcells (hl a (by simp))] at e1
   simpa using e1.symm
 have hcs:cs.size=l.length:=by
  cases hll:l with
  | nil=>rw [hll] at q3;simpa using q3
  | cons a r=>rw [q3,hszr (by rw [hll];simp),hll];simp
 have hcl:∀ j (hj:j<l.length),cellAt l 1 j=some l[j]:=fun j hj=>by
  unfold cellAt
  rw [Nat.div_one,Nat.mod_one,List.getElem?_eq_getElem hj]
  simp [hcells (hl l[j] (List.getElem_mem hj))]
 have hcell:∀ j (hj:j<l.length),Pl w (stab cx fp G w) (RefOk w ct vl) (cs.getD j undef) l[j]:=fun j hj=>by
  have hs1:=hszr (by intro hh;rw [hh] at hj;simp at hj)
  subst hs1
  exact (q8 j _ (hcl j hj)).1
 have hsrc:Src P i.size t (vl ks) l.length cs.toList w:=by
  rw [hsz,q1]
  refine Src.ofSlice w ht ⟨b,0,none⟩ l.length l.length cs.toList (by rw [Array.length_toList,hcs,Nat.mul_one]) (fun j u hj=>?_) (fun u hu=>?_)
  ·rw [Addr.add_lit]
   simp only [Array.getElem?_toList] at hj
   simp [World.cell?,q2,hj]
  ·obtain ⟨j,hj,rfl⟩:=List.getElem_of_mem hu
   have hj':j<cs.size:=by simpa using hj
   have e1:cs.toList[j]=cs.getD j undef:=by simp [hj']
   rw [e1]
   exact (apt_scal (hcell j (by omega)) (hl _ (List.getElem_mem _)) (fun _=>True)).2
 obtain ⟨v',w',F',r1,r2,r3,r4,r5,r6,r7,r8⟩:=append_run (ty:=ty) ht hi hz hzs (by omega) hby (hown.mono hst (fun _ _=>rfl) (fun _ _=>rfl) fun _ h=>h) hesz (fun x hx=>by rw [hsz,hcells (hl x hx)];rfl) hsrc (fun _ _=>False)
  (fun c hc=>⟨hc.1.1,fun hf=>hc.2.1 (.inr hf)⟩) (fun c hc=>(h.lt kb c hc).1) (fun _ _ hc=>hc.elim) (fun j d hd=>by
    rw [hsz] at hd
    have hj:j<l.length:=by have:=cellAt_lt (by omega) hd;omega
    rw [hcl j hj] at hd
    injection hd with hd
    subst hd
    have e1:cs.toList.getD j undef=cs.getD j undef:=by simp
    rw [e1]
    exact (apt_scal (hcell j hj) (hl _ (List.getElem_mem _)) _).1) (fun _ _ _ _ hc=>hc.elim) (fun _ _ _ hc=>hc) hbd
 have h3:=h2.mut r3 (fun b hb hg=>r4 b hb fun hf=>hg (.inr hf)) r5 r6 r7
 refine ⟨v',w',r1,_,fun _=>False,h3.put (k:=ke) (by rw [upd_ne _ _ (fun hh=>hkk hh.symm),hke];rfl) (F:=F') (c:=.o ((D.slice z L).appL l)) (show Own w' _ v' _ F' from r2.mono (fun b hb=>?_) (fun _ _=>rfl) (fun _ _=>rfl) fun _ h=>h) (fun b hb=>?_) (fun _ h=>h.elim) (fun _ _ h=>h) (fun h=>by cases h)⟩
 ·exact ⟨⟨by have:=hb.1.1;omega,hb.1.2⟩,fun hg=>hg.elim hb.2.1 fun hh=>by have:=hb.1.1;omega,hb.2.2⟩
 ·rcases (r8 b hb).2 with hf | hf | hf
  ·exact .inl (.inr hf)
  ·obtain ⟨_,hf⟩:=hf;exact hf.elim
  ·exact .inr ⟨hf,(r8 b hb).1⟩
def AptF (ct:Nat→D) (bytes b s:Nat) (c:D):Prop :=
 ∃ y z0 l m,ct (1000+b)=.o y∧y.len?=some m∧y.esz=1∧ct (1000+s)=.row z0 l∧(∀ e∈l,e.scal=true)∧(m+l.length)*bytes≤140737488355328∧c=.o (y.appL l)∧∀ k,(ct k).refs (notInto (1000+b))
theorem scalL_all:∀ {l:List D},scalL l=true→∀ e∈l,e.scal=true
 | [],_,e,he=>by cases he
 | x::r,h,e,he=>by
  simp only [scalL,Bool.and_eq_true] at h
  rcases List.mem_cons.1 he with rfl | he
  ·exact h.1
  ·exact scalL_all h.2 e he
theorem nth_refs {Q:D→Prop}:∀ {l:List D} (k:Nat),refsL Q l→(nth l k).refs Q
 | [],_,_=>trivial
 | _::_,0,h=>h.1
 | _::_,k+1,h=>nth_refs k h.2
theorem envRefs_get {kb:Nat}:∀ {l:List D} {i:Nat} (k:Nat),envRefs kb i l→(nth l k).refs (notInto kb)∧(opv (i+k) (nth l k)).core.refs (notInto kb)
 | [],i,k,_=>⟨trivial,trivial⟩
 | x::r,i,0,h=>⟨h.1,h.2.1⟩
 | x::r,i,k+1,h=>by
  have:=envRefs_get k h.2.2
  rw [show i+1+k=i+(k+1) by omega] at this
  exact this
theorem apt_split {sz bytes b s:Nat} {K:St→Prop} {st:St} (h:aptVC sz bytes b s K st):sz=1∧∃ c,AptF st.cont bytes b s c∧(∀ j,j<1000→(opv j (st.cont j)).core.refs (notInto (1000+b)))∧K ((st.put (1000+b) .dead).push c):=by
 obtain ⟨h0,h⟩:=h
 refine ⟨h0,?_⟩
 cases hr:(st.cont (1000+s)).row? with
 | none=>rw [hr] at h;exact h.elim
 | some l =>
 rw [hr] at h
 obtain ⟨h1,h⟩:=h
 cases ho:(st.cont (1000+b)).o? with
 | none=>rw [ho] at h;exact h.elim
 | some y =>
 rw [ho] at h
 obtain ⟨h2,h⟩:=h
 cases hl:y.len? with
 | none=>rw [hl] at h;exact h.elim
 | some m =>
 rw [hl] at h
 obtain ⟨h3,h4,h5,h6⟩:=h
 obtain ⟨z0,hrow⟩:∃ z0,st.cont (1000+s)=.row z0 l:=by
  cases hc:st.cont (1000+s)<;>rw [hc] at hr<;>simp only [D.row?,reduceCtorEq,Option.some.injEq] at hr
  exact ⟨_,by rw [hr]⟩
 have hy:st.cont (1000+b)=.o y:=by
  cases hc:st.cont (1000+b)<;>rw [hc] at ho<;>simp only [D.o?,reduceCtorEq,Option.some.injEq] at ho
  rw [ho]
 refine ⟨_,⟨y,z0,l,m,hy,hl,h2,hrow,scalL_all h1,h3,rfl,fun k=>?_⟩,fun j hj=>?_,h6⟩
 ·unfold St.cont
  split
  ·exact (envRefs_get k h4).1
  ·split
   ·exact nth_refs _ h5
   ·trivial
 ·unfold St.cont
  rw [if_pos hj]
  have:=(envRefs_get j h4).2
  rwa [Nat.zero_add] at this
theorem apt_hp {ct:Nat→D} (h:Hp cx ct vl fp G w) {bytes b s ke:Nat} {c:D} (hf:AptF ct bytes b s c) (hke:ct ke=.dead)
  {t ty e:TypeId} {i:TypeInfo} {zv:Value} (ht:P.underlying t=some (.slice e)) (hi:P.info? e=some i) (hz:i.zero=some zv) (hzs:zv.cells.size=i.size) (hsz:i.size=1) (hiby:i.bytes=bytes) (hby : 0<bytes) :
  ∃ v' w',(Builtin.append_ #[t,t] ty #[vl (1000+b),vl (1000+s)]).run P w=.ok v' w'∧∃ fp' G',Hp cx (upd (upd ct (1000+b) .dead) ke c) (upd vl ke v') fp' G' w':=by
 subst hiby
 obtain ⟨y,z0,l,m,h1,h2,h3,h4,h5,h6,rfl,h7⟩:=hf
 have hown:Own w (stab cx fp G w) (vl (1000+b)) y (fp (1000+b)):=by have:=h.ok (1000+b);rw [h1] at this;exact this
 obtain ⟨z,L,rfl,rfl⟩:=base_slice hown h2
 exact app_at h h1 h4 h5 hke h7 ht hi hz hzs hsz hby h6 (by rw [h3,hsz])
end
end Go.D3
