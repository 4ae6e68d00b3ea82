/- REGIONS IN THE ORDER OF THE TEXT. Generic. -/
import Derived.Test.YtgieggnpnepkfaaGreatDoorRegion
namespace Go.D3
open Go
section
variable {P:Program} {cx:Ctx} {nt:Nat} {tr pre:List Nat} {ds:List (Option Nat)} {w:World} {Q:Exit→Act→World→Prop}
theorem nodupN_inj:∀ {l:List Nat},nodupN l=true→∀ (i j t:Nat),l[i]?=some t→l[j]?=some t→i=j
 | [],_,i,j,t,h,_=>by simp at h
 | d::r,h,i,j,t,hi,hj=>by
  simp only [nodupN,Bool.and_eq_true,Bool.not_eq_true',List.contains_eq_mem,decide_eq_false_iff_not] at h
  cases i with
  | zero=>cases j with
   | zero=>rfl
   | succ j=>simp at hi hj;subst hi;exact absurd (List.mem_of_getElem? hj) h.1
  | succ i=>cases j with
   | zero=>simp at hi hj;subst hj;exact absurd (List.mem_of_getElem? hi) h.1
   | succ j=>simp at hi hj;rw [nodupN_inj h.2 i j t hi hj]
theorem nodupO_inj:∀ {l:List (Option Nat)},nodupO l=true→∀ (i j t:Nat),l[i]?=some (some t)→l[j]?=some (some t)→i=j
 | [],_,i,j,t,h,_=>by simp at h
 | none::r,h,i,j,t,hi,hj=>by
  cases i with
  | zero=>simp at hi
  | succ i=>cases j with
   | zero=>simp at hj
   | succ j=>simp at hi hj;rw [nodupO_inj (l:=r) h i j t hi hj]
 | some d::r,h,i,j,t,hi,hj=>by
  simp only [nodupO,Bool.and_eq_true,Bool.not_eq_true',List.contains_eq_mem,decide_eq_false_iff_not] at h
  cases i with
  | zero=>cases j with
   | zero=>rfl
   | succ j=>simp at hi hj;subst hi;exact absurd (List.mem_of_getElem? hj) h.1
  | succ i=>cases j with
   | zero=>simp at hi hj;subst hj;exact absurd (List.mem_of_getElem? hi) h.1
   | succ j=>simp at hi hj;rw [nodupO_inj h.2 i j t hi hj]
theorem apartD_get:∀ {l:List (Option Nat)},apartD tr pre l=true→∀ (i t:Nat),l[i]?=some (some t)→∀ (j:Nat),tr[j]?=some t→pre.contains j=true
 | [],_,i,t,h,_,_=>by simp at h
 | none::r,h,i,t,hi,j,hj=>by
  cases i with
  | zero=>simp at hi
  | succ i=>simp at hi;exact apartD_get (l:=r) h i t hi j hj
 | some d::r,h,i,t,hi,j,hj=>by
  simp only [apartD,Bool.and_eq_true,List.all_eq_true] at h
  cases i with
  | zero =>
   simp at hi
   subst hi
   have:=h.1 (d,j) (List.mem_zipIdx_iff_getElem?.2 hj)
   simpa using this
  | succ i=>simp at hi;exact apartD_get h.2 i t hi j hj
theorem postOk_get:∀ {post:List (Nat×Nat)},postOk ds tr pre post=true→(∀ p∈post,∃ t,tr[p.1]?=some t∧ds[p.2]?=some (some t))∧(post.map (·.1)).Nodup
 | [],_=>⟨(fun p hp=>absurd hp (by simp)),List.nodup_nil⟩
 | (j,i)::r,h=>by
  simp only [postOk,Bool.and_eq_true,Bool.not_eq_true',List.contains_eq_mem,decide_eq_false_iff_not] at h
  obtain ⟨⟨⟨_,h1⟩,h2⟩,h3⟩:=h
  obtain ⟨k1,k2⟩:=postOk_get h3
  refine ⟨fun p hp=>?_,by simp only [List.map_cons,List.nodup_cons];exact ⟨h2,k2⟩⟩
  rcases List.mem_cons.1 hp with rfl | hp
  ·split at h1<;>try (cases h1;done)
   rename_i t d e1 e2
   simp only [beq_iff_eq] at h1
   subst h1
   exact ⟨_,e1,e2⟩
  ·exact k1 p hp
theorem gd_yields {ops:Array Oper} {st:St} {a:Act} {i t:Nat} {want b:Bool} (h:Fm cx nt tr pre ds st a w) (hi:i<st.n) (hds:ds[i]?=some (some t)) (hj:(ops[i]?).bind (·.dst)=some t) (hg:gd (st.rd (.t i)) want=some b) :
  (yielded ops a.tmps i == some want)=b:=by
 obtain ⟨vl,fp,G,hp,_,htm,_⟩:=h.ex
 have he:PlG w (stab cx fp G w) (RefOk w st.cont vl) (a.tmps.getD t undef) (st.rd (.t i)):=by
  rw [htm i t hi hds]
  exact opv_ok (hp.ok _)
 have hy:yielded ops a.tmps i=match a.tmps.getD t undef with | .bool b=>some b | _=>none:=by
  unfold yielded
  rw [hj,Option.bind_some]
  by_cases ht:t<a.tmps.size
  ·rw [getD_some ht]
   cases a.tmps.getD t undef<;>rfl
  ·have h1:a.tmps[t]?=none:=by simp;omega
   have h2:a.tmps.getD t undef=undef:=by simp [h1]
   rw [h1,h2]
   rfl
 unfold gd at hg
 rw [Option.bind_eq_some_iff] at hg
 obtain ⟨c,hc,hg⟩:=hg
 injection hg with hg
 rw [hy]
 generalize st.rd (.t i)=d at he hc hg
 cases hgt:d.gate with
 | false =>
  rw [he.2 hgt]
  rw [hgt] at hg
  simp at hg
  subst hg
  rfl
 | true =>
  have h1:=he.1 hgt
  have hcore:d.core=.bool c:=by
   revert hc
   cases d.core<;>simp [D.bool?]
  rw [hcore] at h1
  rw [pl_bool h1]
  rw [hgt] at hg
  cases want<;>cases c<;>simp at hg<;>subst hg<;>rfl
theorem resDsts_dst:∀ {l:List Oper} {sl:List SOp} {i t:Nat},(resDsts l sl)[i]?=some (some t)→(l[i]?).bind (·.dst)=some t
 | [],_,i,t,h=>by simp [resDsts] at h
 | _::_,[],i,t,h=>by simp [resDsts] at h
 | o::l,s::r,0,t,h=>by
  simp only [resDsts,List.getElem?_cons_zero,Option.some.injEq] at h
  simp only [List.getElem?_cons_zero,Option.bind_some]
  unfold resDst at h
  split at h
  ·cases h
  ·exact h
 | o::l,s::r,i+1,t,h=>by
  simp only [resDsts,List.getElem?_cons_succ] at h ⊢
  exact resDsts_dst h
theorem ops_run {ops:Array Oper} (hS:Slots nt tr pre ds) (hdst:∀ (i t:Nat),ds[i]?=some (some t)→(ops[i]?).bind (·.dst)=some t):∀ (l:List Oper) (sl:List SOp) (n:Nat) {K:St→Prop} {st:St} {a:Act} {w:World},
  ops.toList.drop n=l→fitOps P nt ds tr n l sl=true→(∀ s∈sl,opPre pre s=true)→resDsts l sl=ds.drop n→st.n=n→Fm cx nt tr pre ds st a w→vcOps P K sl st →
  (∀ a w st,K st→st.n=n+l.length→Fm cx nt tr pre ds st a w→Q .normal a w)→wpOps P ops Q (List.range' n l.length) a w
 | [],sl,n,K,st,a,w,hl,hf,hpre,hds,hn,h,hv,hQ=>by
  cases sl with
  | nil=>exact hQ a w st hv (by simpa using hn) h
  | cons _ _=>simp [fitOps] at hf
 | o::l,[],n,K,st,a,w,hl,hf,hpre,hds,hn,h,hv,hQ=>by simp [fitOps] at hf
 | o::l,s::sl,n,K,st,a,w,hl,hf,hpre,hds,hn,h,hv,hQ=>by
  subst hn
  simp only [fitOps,Bool.and_eq_true] at hf
  obtain ⟨⟨⟨⟨⟨hf1,hf2⟩,hf3⟩,hf4⟩,hf5⟩,hf⟩:=hf
  have hon:ops[st.n]?=some o:=by
   have:(ops.toList.drop st.n)[0]?=some o:=by rw [hl];rfl
   rw [List.getElem?_drop] at this
   simpa using this
  have hl':ops.toList.drop (st.n+1)=l:=by
   rw [← List.tail_drop,hl];rfl
  have hd:ds[st.n]?=some (resDst o s):=by
   have:(ds.drop st.n)[0]?=some (resDst o s):=by rw [← hds];rfl
   rw [List.getElem?_drop] at this
   simpa using this
  have hds':resDsts l sl=ds.drop (st.n+1):=by
   rw [← List.tail_drop,← hds];rfl
  have hlt:∀ t,o.dst=some t→t<nt:=fun t ht=>by rw [ht] at hf1;simpa using hf1
  have hp:=hpre s (by simp)
  simp only [opPre,Bool.and_eq_true,List.all_eq_true] at hp
  have hasg:∀ j,s.k.asgTo=some j→o.dst=tr[j]?∧j<tr.length∧pre.contains j=false:=fun j hj=>by
   rw [hj] at hf2 hp
   simp only [Bool.and_eq_true,decide_eq_true_eq] at hf2
   exact ⟨hf2.1.1,hf2.1.2,by simpa using hp.1⟩
  have hreads:∀ i,i∈s.k.reads→i<st.n:=fun i hi=>by simpa using (List.all_eq_true.1 hf5) i hi
  have hxs:∀ j,X.v j∈s.k.xs→pre.contains j=false:=fun j hj=>by simpa using hp.2 _ hj
  have ih:∀ a' w',(∃ st',vcOps P K sl st'∧Fm cx nt tr pre ds st' a' w'∧st'.n=st.n+1)→wpOps P ops Q (List.range' (st.n+1) l.length) a' w':=fun a' w' ⟨st',h1,h2,h3⟩ =>
   ops_run hS hdst l sl (st.n+1) hl' hf (fun s hs=>hpre s (by simp [hs])) hds' h3 h2 h1 fun a w st hK hn' hF=>hQ a w st hK (by simp only [List.length_cons];omega) hF
  simp only [List.length_cons,List.range'_succ,wpOps,hon]
  obtain ⟨g0,k⟩:=s
  cases hog:o.guard with
  | none =>
   cases g0 with
   | some _=>rw [hog] at hf3;cases hf3
   | none =>
    have hw:Region.wanted o (yielded ops a.tmps)=true:=by simp [Region.wanted,hog]
    rw [if_pos hw]
    exact .inl (Oper.wp_mono ih (op_step hS h (g:=none) (by simp) hf4 hd hasg hlt hreads hxs hv))
  | some gg =>
   obtain ⟨j,want⟩:=gg
   cases g0 with
   | none=>rw [hog] at hf3;cases hf3
   | some g1 =>
    obtain ⟨i,want'⟩:=g1
    rw [hog] at hf3
    simp only [Bool.and_eq_true,beq_iff_eq,decide_eq_true_eq] at hf3
    obtain ⟨⟨⟨rfl,rfl⟩,hjn⟩,hj2⟩:=hf3
    have hjd:∃ t,ds[j]?=some (some t):=by
     split at hj2
     ·exact ⟨_,by assumption⟩
     ·cases hj2
    obtain ⟨t,hjd⟩:=hjd
    have hna:k.asgTo=none:=by
     cases hk:k.asgTo with
     | none=>rfl
     | some j'=>simp [hk] at hf2
    simp only [vcOps,guardVC] at hv
    split at hv
    ·rename_i b hgd
     have hwb:Region.wanted o (yielded ops a.tmps)=b:=by
      simp only [Region.wanted,hog]
      exact gd_yields h hjn hjd (hdst j t hjd) hgd
     cases b with
     | true =>
      rw [if_pos hwb]
      exact .inl (Oper.wp_mono ih (op_step hS h (g:=some true) (by simp) hf4 hd hasg hlt hreads hxs hv))
     | false =>
      rw [if_neg (by rw [hwb];simp)]
      exact ih _ _ (skip_step hS h hd hna hlt hv)
    ·exact hv.elim
end
end Go.D3
