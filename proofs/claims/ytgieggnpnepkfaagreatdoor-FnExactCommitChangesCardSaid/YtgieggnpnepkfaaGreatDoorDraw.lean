/- REGIONS THAT DRAW THEIR ORDER: quiet operations in any order,effects as barriers. Generic. -/
import Derived.Test.YtgieggnpnepkfaaGreatDoorRun
namespace Go.D3
open Go
def rdC (ct:Nat→D):X→D
 | .t i=>opv (1000+i) (ct (1000+i))
 | .v j=>opv j (ct j)
 | .i n=>.int .i64 n
 | .k d=>d
 | .g n=>(gl n).getD .dead
theorem rdC_st (st:St) (x:X):rdC st.cont x=st.rd x:=by cases x<;>rfl
def OpOk (P:Program) (k:Kp) (g:Option Bool) (rd:X→D) (ob:Nat→D) (c:D):Prop :=
 match k with
 | .call f xs=>∃ ds res,gathL ob rd xs=some ds∧onG g (gates rd xs=true∧Ret P f (ds.map .v) res∧(res.novw=true∨plainL rd xs))∧callC g res c
 | .callk f xs=>g=none∧gates rd xs=true∧KOk P f ob (rdsL rd xs) c
 | .box n x=>g=none∧∃ side,newR (.box n x) rd=some (side,c)∧side
 | .boxv n x=>g=none∧∃ side,newR (.boxv n x) rd=some (side,c)∧side
 | .alc zs=>g=none∧∃ side,newR (.alc zs) rd=some (side,c)∧side
 | .mkS z b l u=>g=none∧∃ side,newR (.mkS z b l u) rd=some (side,c)∧side
 | .mkM=>g=none∧∃ side,newR .mkM rd=some (side,c)∧side
 | .rng x=>g=none∧∃ side,newR (.rng x) rd=some (side,c)∧side
 | .cvB x=>g=none∧∃ side,newR (.cvB x) rd=some (side,c)∧side
 | .bldS z n ps=>g=none∧∃ side,newR (.bldS z n ps) rd=some (side,c)∧side
 | k=>(∃ side res,pev k rd ob=some (side,res)∧onG g side∧res.okc=true∧c=whG g res)∨(g=some false∧c=.when false (.bool false))
theorem pure_split {r:Option PR} {g:Option Bool} {K:St→Prop} {st:St} (h:pureVC r g K st):∃ c,((∃ side res,r=some (side,res)∧onG g side∧res.okc=true∧c=whG g res)∨(g=some false∧c=.when false (.bool false)))∧K (st.push c):=by
 unfold pureVC at h
 split at h
 ·exact ⟨_,.inr ⟨h.1,rfl⟩,h.2⟩
 ·exact ⟨_,.inl ⟨_,_,rfl,h.1,h.2.1,rfl⟩,h.2.2⟩
theorem new_split {r:Option PR} {g:Option Bool} {K:St→Prop} {st:St} (h:newVC r g K st):∃ c,(g=none∧∃ side,r=some (side,c)∧side)∧K (st.push c):=by
 unfold newVC at h
 split at h
 ·exact ⟨_,⟨rfl,_,rfl,h.1⟩,h.2⟩
 ·exact h.elim
theorem op_split {P:Program} {k:Kp} {g:Option Bool} {K:St→Prop} {st:St} (hk:k.isEff=false) (h:opVC P k g K st):∃ c,OpOk P k g st.rd st.cont c∧K (st.push c):=by
 cases k<;>try (simp [Kp.isEff] at hk;done)
 case call f xs =>
  obtain ⟨dts,res,c,h1,h2,h3,h4⟩:=h
  exact ⟨c,⟨dts,res,h1,h2,h3⟩,h4⟩
 case callk f xs =>
  obtain ⟨h1,h2,c,h3,h4⟩:=h
  exact ⟨c,⟨h1,h2,h3⟩,h4⟩
 case box=>exact new_split h
 case boxv=>exact new_split h
 case alc=>exact new_split h
 case mkS=>exact new_split h
 case mkM=>exact new_split h
 case rng=>exact new_split h
 case cvB=>exact new_split h
 case bldS=>exact new_split h
 all_goals exact pure_split h
section
variable {ob ob':Nat→D} (hm:∀ k c,lk ob k=some c→lk ob' k=some c)
include hm
theorem lk_bind {α:Type} {k:Nat} {F:D→Option α} {r:α} (h:(lk ob k).bind F=some r):(lk ob' k).bind F=some r:=by
 rw [Option.bind_eq_some_iff] at h ⊢
 obtain ⟨c,h1,h2⟩:=h
 exact ⟨c,hm k c h1,h2⟩
theorem mapOf_mono {x:D} {e:List D×List D} (h:mapOf ob x=some e):mapOf ob' x=some e:=by
 unfold mapOf at h ⊢
 split at h
 ·exact lk_bind hm h
 ·exact h
theorem pev_mono {k:Kp} {rd:X→D} {r:PR} (h:pev k rd ob=some r):pev k rd ob'=some r:=by
 have g1m:∀ {x:D} {a b:Option PR},(∀ r,a=some r→b=some r)→g1 x a=some r→g1 x b=some r:=by
  intro x a b hab ha
  cases a with
  | none=>cases ha
  | some q=>rw [hab q rfl];exact ha
 have g2m:∀ {x y:D} {a b:Option PR},(∀ r,a=some r→b=some r)→g2 x y a=some r→g2 x y b=some r:=by
  intro x y a b hab ha
  cases a with
  | none=>cases ha
  | some q=>rw [hab q rfl];exact ha
 cases k<;>try exact h
 case sl x lo hi =>
  simp only [pev] at h ⊢
  unfold slR at h ⊢
  cases hso:subOf (rd x).core lo with
  | some kp=>rw [hso] at h;exact lk_bind hm h
  | none=>rw [hso] at h;exact h
 case len x =>
  refine g1m (fun r hr=>?_) h
  unfold lenR at hr ⊢
  split at hr
  ·exact lk_bind hm hr
  ·exact hr
 case mlk ok kk z m k =>
  refine g2m (fun r hr=>?_) h
  unfold mlkR at hr ⊢
  rw [Option.bind_eq_some_iff] at hr ⊢
  obtain ⟨e,h1,h2⟩:=hr
  exact ⟨e,mapOf_mono hm h1,h2⟩
 case lenM x =>
  refine g1m (fun r hr=>?_) h
  unfold lenMR at hr ⊢
  rw [Option.bind_eq_some_iff] at hr ⊢
  obtain ⟨e,h1,h2⟩:=hr
  exact ⟨e,mapOf_mono hm h1,h2⟩
 case cvS x =>
  refine g1m (fun r hr=>?_) h
  unfold cvSR at hr ⊢
  split at hr
  ·exact lk_bind hm hr
  ·exact hr
 case idxA sz x i =>
  refine g2m (fun r hr=>?_) h
  unfold idxAR at hr ⊢
  split at hr
  ·split at hr
   ·exact lk_bind hm hr
   ·exact hr
  ·cases hr
 case ld a =>
  refine g1m (fun r hr=>?_) h
  unfold ldR at hr ⊢
  split at hr
  ·exact hr
  ·exact lk_bind hm hr
  ·cases hr
 case lda n a =>
  refine g1m (fun r hr=>?_) h
  unfold ldaR at hr ⊢
  split at hr
  ·exact hr
  ·exact lk_bind hm hr
  ·cases hr
 case fA off a =>
  refine g1m (fun r hr=>?_) h
  unfold fAR at hr ⊢
  split at hr
  ·exact hr
  ·exact lk_bind hm hr
  ·cases hr
omit hm in
theorem mapO_mono {f g:D→Option D} (h:∀ x y,f x=some y→g x=some y):∀ {l r:List D},mapO f l=some r→mapO g l=some r
 | [],r,hr=>hr
 | x::l,r,hr=>by
  simp only [mapO,Option.bind_eq_some_iff] at hr ⊢
  obtain ⟨y,h1,z,h2,h3⟩:=hr
  exact ⟨y,h x y h1,z,mapO_mono h h2,h3⟩
theorem gath_mono:∀ (n:Nat) {d r:D},gath ob n d=some r→gath ob' n d=some r
 | 0,d,r,h=>by simp [gath] at h
 | n+1,d,r,h=>by
  have ih:∀ x y,gath ob n x=some y→gath ob' n x=some y:=fun x y=>gath_mono n
  cases d<;>try exact h
  case sub k p =>
   simp only [gath] at h ⊢
   rw [Option.bind_eq_some_iff] at h ⊢
   obtain ⟨c,h1,h2⟩:=h
   refine ⟨c,hm k c h1,?_⟩
   cases c<;>try exact h2
   rename_i z l
   simp only [Option.bind_eq_some_iff] at h2 ⊢
   obtain ⟨l',h3,h4⟩:=h2
   exact ⟨l',mapO_mono ih h3,h4⟩
  case pre k p m =>
   simp only [gath] at h ⊢
   rw [Option.bind_eq_some_iff] at h ⊢
   obtain ⟨c,h1,h2⟩:=h
   exact ⟨c,hm k c h1,h2⟩
  case adr k p =>
   simp only [gath] at h ⊢
   rw [Option.bind_eq_some_iff] at h ⊢
   obtain ⟨c,h1,h2⟩:=h
   refine ⟨c,hm k c h1,?_⟩
   split at h2
   ·simp only [Option.bind_eq_some_iff] at h2 ⊢
    obtain ⟨l',h3,h4⟩:=h2
    exact ⟨l',mapO_mono ih h3,h4⟩
   ·exact h2
   ·cases h2
  case agg l =>
   simp only [gath,Option.bind_eq_some_iff] at h ⊢
   obtain ⟨l',h3,h4⟩:=h
   exact ⟨l',mapO_mono ih h3,h4⟩
  case fn f caps =>
   simp only [gath,Option.bind_eq_some_iff] at h ⊢
   obtain ⟨l',h3,h4⟩:=h
   exact ⟨l',mapO_mono ih h3,h4⟩
theorem gathL_mono {rd:X→D}:∀ {xs:List X} {l:List D},gathL ob rd xs=some l→gathL ob' rd xs=some l
 | [],l,h=>h
 | x::r,l,h=>by
  simp only [gathL,Option.bind_eq_some_iff] at h ⊢
  obtain ⟨y,h1,z,h2,h3⟩:=h
  exact ⟨y,gath_mono hm 4 h1,z,gathL_mono h2,h3⟩
theorem OpOk.mono (hlo:∀ j,j<1000→ob j=ob' j) {P:Program} {k:Kp} {g:Option Bool} {rd:X→D} {c:D} (h:OpOk P k g rd ob c):OpOk P k g rd ob' c:=by
 cases k
 case callk f xs=>exact ⟨h.1,h.2.1,h.2.2.mono hlo⟩
 case call f xs =>
  obtain ⟨dts,res,h1,h2,h3⟩:=h
  exact ⟨dts,res,gathL_mono hm h1,h2,h3⟩
 case box=>exact h
 case boxv=>exact h
 case alc=>exact h
 case mkS=>exact h
 case mkM=>exact h
 case rng=>exact h
 case cvB=>exact h
 case bldS=>exact h
 all_goals
  rcases h with ⟨side,res,h1,h2⟩ | h
  ·exact .inl ⟨side,res,pev_mono hm h1,h2⟩
  ·exact .inr h
end
structure Fd (cx:Ctx) (nt:Nat) (tr pre:List Nat) (ds:List (Option Nat)) (ct:Nat→D) (done:Nat→Prop) (a:Act) (w:World):Prop where
 ex:∃ vl fp G,Hp cx ct vl fp G w∧(∀ (j t:Nat),tr[j]?=some t→pre.contains j=false→a.tmps.getD t undef=vl j)∧(∀ (i t:Nat),done i→ds[i]?=some (some t)→a.tmps.getD t undef=vl (1000+i))∧∀ k,tr.length≤k→k<1000→vl k=cx.gv k
 dd:∀ j,pre.contains j=true→ct j=.dead
 size:a.tmps.size=nt
 defers:a.defers=cx.dfs
section
variable {P:Program} {cx:Ctx} {nt:Nat} {tr pre:List Nat} {ds:List (Option Nat)} {ct:Nat→D} {done:Nat→Prop} {a:Act} {w:World} {o:Oper} {Q:Exit→Act→World→Prop} {vl:Nat→Value} {fp:Nat→Nat→Prop} {G:Nat→Prop}
theorem isX_okC (h:Hp cx ct vl fp G w) (htr:∀ (j t:Nat),tr[j]?=some t→pre.contains j=false→a.tmps.getD t undef=vl j) (htm:∀ (i t:Nat),done i→ds[i]?=some (some t)→a.tmps.getD t undef=vl (1000+i))
  {x:Operand} {y:X} (hx:isX ds tr x y=true) (hi:∀ i,y=.t i→done i) (hv:∀ j,y=.v j→pre.contains j=false):PlG w (stab cx fp G w) (RefOk w ct vl) (a.eval x) (rdC ct y):=by
 have lit:∀ {v:Value} {d:D},Rd w (stab cx fp G w) v d→PlG w (stab cx fp G w) (RefOk w ct vl) v d:=fun hd=>Pl.plg (.rd hd) ref_when
 unfold isX at hx
 split at hx<;>try (cases hx;done)
 ·rename_i t i
  have:=htm i t (hi i rfl) (by simpa using hx)
  show PlG _ _ _ (a.tmps.getD t undef) (opv (1000+i) (ct (1000+i)))
  rw [this]
  exact opv_ok (h.ok _)
 ·rename_i t j
  have:=htr j t (by simpa using hx) (hv j rfl)
  show PlG _ _ _ (a.tmps.getD t undef) (opv j (ct j))
  rw [this]
  exact opv_ok (h.ok _)
 ·simp only [Bool.and_eq_true,decide_eq_true_eq] at hx
  obtain ⟨⟨rfl,rfl⟩,h1⟩:=hx
  exact lit (.int (okInt_has h1))
 ·simp only [Bool.and_eq_true,decide_eq_true_eq] at hx
  obtain ⟨⟨rfl,rfl⟩,h1⟩:=hx
  exact lit (.int (okInt_has h1))
 ·simp only [beq_iff_eq] at hx
  subst hx
  exact lit .bool
 ·simp only [Bool.and_eq_true,decide_eq_true_eq] at hx
  show PlG _ _ _ (Value.string _) _
  rw [eqL_const hx.1]
  exact lit (.str (by have:=hx.2;simp only [maxLen];omega))
 ·exact lit .nils
 ·exact lit .nilp
 ·simp only [beq_iff_eq] at hx
  subst hx
  exact lit (.fn rfl (fun j x hx=>by simp at hx))
 ·rename_i g g'
  simp only [Bool.and_eq_true,beq_iff_eq] at hx
  obtain ⟨hgg,hx⟩:=hx
  subst hgg
  obtain ⟨d,hd⟩:=Option.isSome_iff_exists.1 hx
  have:=h.gl.gl _ _ hd
  show PlG _ _ _ _ ((gl g).getD .dead)
  rw [hd]
  exact lit this
 ·exact lit .nifc
theorem Fd.put' (hS:Slots nt tr pre ds) (hdd:∀ j,pre.contains j=true→ct j=.dead) (hsize:a.tmps.size=nt) (hdef:a.defers=cx.dfs) {i:Nat} {s:SOp} (hd:ds[i]?=some (resDst o s)) (ha:s.k.asgTo=none) (hlt:∀ t,o.dst=some t→t<nt) {w':World} {v:Value} {c:D}
  (htr0:∀ (j t:Nat),tr[j]?=some t→pre.contains j=false→a.tmps.getD t undef=vl j) (htm0:∀ (i t:Nat),done i→ds[i]?=some (some t)→a.tmps.getD t undef=vl (1000+i)) (hgh:∀ k,tr.length≤k→k<1000→vl k=cx.gv k)
  (hp:∃ fp' G',Hp cx (upd ct (1000+i) c) (upd vl (1000+i) v) fp' G' w'):Fd cx nt tr pre ds (upd ct (1000+i) c) (fun j=>done j∨j=i) (a.put o.dst v) w':=by
 obtain ⟨fp',G',hp⟩:=hp
 have hres:resDst o s=o.dst:=by simp [resDst,ha]
 rw [hres] at hd
 have hjlt:∀ j t,tr[j]?=some t→j<1000:=fun j t hj=>by have:=(List.getElem?_eq_some_iff.1 hj).1;have:=hS.few;omega
 refine ⟨⟨_,_,_,hp,fun j t hj hpre=>?_,fun j t hj hit=>?_,fun k h1 h2=>by rw [upd_ne _ _ (by omega)];exact hgh k h1 h2⟩,fun j hj=>by rw [upd_ne _ _ (by have:=hS.prelt j hj;have:=hS.few;omega)];exact hdd j hj,?_,?_⟩
 ·rw [upd_ne _ _ (by have:=hjlt j t hj;omega)]
  cases hod:o.dst with
  | none=>exact htr0 j t hj hpre
  | some d =>
   have hne:d≠t:=by
    rintro rfl
    rw [hod] at hd
    have:=hS.apart _ _ hd j hj
    rw [hpre] at this;cases this
   simp only [Act.put]
   rw [getD_set_ne _ hne]
   exact htr0 j t hj hpre
 ·by_cases hin:j=i
  ·subst hin
   rw [upd_same]
   rw [hd] at hit
   injection hit with hit
   rw [hit]
   simp only [Act.put]
   exact getD_set_eq _ (by rw [hsize];exact hlt t hit)
  ·rw [upd_ne _ _ (by omega)]
   have hj':=hj.resolve_right hin
   cases hod:o.dst with
   | none=>exact htm0 j t hj' hit
   | some d =>
    have hne:d≠t:=by
     rintro rfl
     rw [hod] at hd
     exact hin (hS.nodup _ _ _ hit hd)
    simp only [Act.put]
    rw [getD_set_ne _ hne]
    exact htm0 j t hj' hit
 ·cases o.dst<;>simp [Act.put,hsize]
 ·cases o.dst<;>simp [Act.put,hdef]
theorem Fd.put (hS:Slots nt tr pre ds) (h:Fd cx nt tr pre ds ct done a w) {i:Nat} {s:SOp} (hd:ds[i]?=some (resDst o s)) (ha:s.k.asgTo=none) (hlt:∀ t,o.dst=some t→t<nt) {w':World} {v:Value} {c:D}
  (htr0:∀ (j t:Nat),tr[j]?=some t→pre.contains j=false→a.tmps.getD t undef=vl j) (htm0:∀ (i t:Nat),done i→ds[i]?=some (some t)→a.tmps.getD t undef=vl (1000+i)) (hgh:∀ k,tr.length≤k→k<1000→vl k=cx.gv k)
  (hp:∃ fp' G',Hp cx (upd ct (1000+i) c) (upd vl (1000+i) v) fp' G' w'):Fd cx nt tr pre ds (upd ct (1000+i) c) (fun j=>done j∨j=i) (a.put o.dst v) w' :=
 Fd.put' hS h.dd h.size h.defers hd ha hlt htr0 htm0 hgh hp
theorem put_plainC (h:Hp cx ct vl fp G w) {k:Nat} (hk:(ct k).isObj=false) {v:Value} {c:D} (hc:ContOk w (stab cx fp G w) (RefOk w ct vl) v (fun _=>False) c):∃ fp' G',Hp cx (upd ct k c) (upd vl k v) fp' G' w :=
 ⟨_,G,h.put hk (F:=fun _=>False) hc (fun _ h=>h.elim) (fun _ h=>h) (fun _ h=>h.elim) (fun _ _ h=>h)⟩
theorem q_step (hS:Slots nt tr pre ds) (h:Fd cx nt tr pre ds ct done a w) {i:Nat} (hct:(ct (1000+i)).isObj=false) {s:SOp} {g:Option Bool} (hg:g≠some false) (hk:isK P ds tr o s.k=true) (hd:ds[i]?=some (resDst o s)) (hna:s.k.asgTo=none) (hlt:∀ t,o.dst=some t→t<nt)
  {rd:X→D} {ob:Nat→D} (hrd:∀ y,y∈s.k.xs→∀ x,isX ds tr x y=true→rd y=rdC ct y) (hreads:∀ j,j∈s.k.reads→done j) (hxs:∀ j,X.v j∈s.k.xs→pre.contains j=false) (hob:∀ j,(ct j).isObj=true→ob j=ct j) (hlo:∀ j,j<1000→ob j=ct j) {c:D} (hop:OpOk P s.k g rd ob c) :
  o.wp P a w (fun a' w'=>Fd cx nt tr pre ds (upd ct (1000+i) c) (fun j=>done j∨j=i) a' w') Q:=by
 obtain ⟨vl,fp,G,hp,htr,htm,hgh⟩:=h.ex
 obtain ⟨g0,k⟩:=s
 simp only at hk hd hna hrd hreads hxs hop
 have hx:∀ y,y∈k.xs→∀ x,isX ds tr x y=true→PlG w (stab cx fp G w) (RefOk w ct vl) (a.eval x) (rd y):=fun y hy x hxy=>by
  rw [hrd y hy x hxy]
  exact isX_okC hp htr htm hxy (fun i hi=>hreads i (reads_of (by rw [← hi];exact hy))) (fun j hj=>hxs j (by rw [← hj];exact hy))
 have hok:∀ j,∃ F,ContOk w (stab cx fp G w) (RefOk w ct vl) (vl j) F (ct j):=fun j=>⟨_,hp.ok j⟩
 have pure:((∃ side res,pev k rd ob=some (side,res)∧onG g side∧res.okc=true∧c=whG g res)∨(g=some false∧c=.when false (.bool false)))→o.wp P a w (fun a' w'=>Fd cx nt tr pre ds (upd ct (1000+i) c) (fun j=>done j∨j=i) a' w') Q:=by
  rintro (⟨side,res,hpev,hs,hoc,rfl⟩ | ⟨hh,-⟩)
  case inr=>exact absurd hh hg
  have hside:side:=by
   cases g with
   | none=>exact hs
   | some b=>cases b with
    | false=>exact absurd rfl hg
    | true=>exact hs rfl
  obtain ⟨v,hrun,hpl⟩:=pev_sound (P:=P) (o:=o) hpev hk hx hob hok hside
  exact wp_of_value hrun (h.put hS (s:=⟨g0,k⟩) hd hna hlt htr htm hgh (put_plainC hp hct (whG_ok hpl hoc hg)))
 have new:(g=none∧∃ side,newR k rd=some (side,c)∧side)→o.wp P a w (fun a' w'=>Fd cx nt tr pre ds (upd ct (1000+i) c) (fun j=>done j∨j=i) a' w') Q:=by
  rintro ⟨rfl,side,hnew,hs⟩
  obtain ⟨v,w',F,hrun,hext,hF,hc,hemp⟩:=new_sound (P:=P) (o:=o) (A:=stab cx fp G w) hnew hk hx (fun b hb=>hb.1.1) hs
  exact wp_of_value hrun (h.put hS (s:=⟨g0,k⟩) hd hna hlt htr htm hgh ⟨_,_,hp.add hext (k:=1000+i) hct hF hc hemp⟩)
 cases k with
 | call f xs =>
  obtain ⟨dts,res,hgl,hrest,hcr⟩:=hop
  have hh:gates rd xs=true∧Ret P f (dts.map .v) res∧(res.novw=true∨plainL rd xs):=by
   cases g with
   | none=>exact hrest
   | some b=>cases b with
    | false=>exact absurd rfl hg
    | true=>exact hrest rfl
  refine call_sound (ob:=ob) hp hk hx hob hgl hh.1 hh.2.1 hh.2.2 g hg hcr fun v w' F hext hF hc hemp=>?_
  exact h.put hS (s:=⟨g0,.call f xs⟩) hd hna hlt htr htm hgh ⟨_,_,hp.add hext (k:=1000+i) hct hF hc hemp⟩
 | callk f xs =>
  obtain ⟨rfl,hgt,hko⟩:=hop
  refine callk_sound (ob:=ob) hp hk hx hgt hlo hko fun v w' hext hc hemp=>?_
  exact h.put hS (s:=⟨g0,.callk f xs⟩) hd hna hlt htr htm hgh ⟨_,_,hp.add hext (k:=1000+i) hct (fun _ h=>h.elim) hc (fun _ _ h=>h)⟩
 | asg j x=>simp [Kp.asgTo] at hna
 | asgA j x=>simp [Kp.asgTo] at hna
 | asgP j x=>simp [Kp.asgTo] at hna
 | st x y=>exact pure hop
 | stn n x y=>exact pure hop
 | stR n x y=>exact pure hop
 | app n m x y=>exact pure hop
 | calle f xs=>exact pure hop
 | dyn f xs=>exact pure hop
 | box n x=>exact new hop
 | boxv n x=>exact new hop
 | alc zs=>exact new hop
 | mkS z b l c=>exact new hop
 | mkM=>exact new hop
 | rng x=>exact new hop
 | cvB x=>exact new hop
 | bldS z n ps=>exact new hop
 | _=>exact pure hop
theorem q_skip (hS:Slots nt tr pre ds) (h:Fd cx nt tr pre ds ct done a w) {i:Nat} (hct:(ct (1000+i)).isObj=false) {s:SOp} (hd:ds[i]?=some (resDst o s)) (hna:s.k.asgTo=none) (hlt:∀ t,o.dst=some t→t<nt)
  {rd:X→D} {ob:Nat→D} {c:D} (hop:OpOk P s.k (some false) rd ob c):Fd cx nt tr pre ds (upd ct (1000+i) c) (fun j=>done j∨j=i) (a.put o.dst undef) w:=by
 obtain ⟨vl,fp,G,hp,htr,htm,hgh⟩:=h.ex
 have hc:∃ d,c=.when false d:=by
  obtain ⟨g0,k⟩:=s
  cases k with
  | call f xs=>obtain ⟨_,res,_,_,hcr⟩:=hop;exact ⟨res,hcr⟩
  | callk f xs=>cases hop.1
  | box n x=>cases hop.1
  | boxv n x=>cases hop.1
  | alc zs=>cases hop.1
  | mkS z b l c=>cases hop.1
  | mkM=>cases hop.1
  | rng x=>cases hop.1
  | cvB x=>cases hop.1
  | bldS z n ps=>cases hop.1
  | _ =>
   rcases hop with ⟨_,res,_,_,_,rfl⟩ | ⟨_,rfl⟩
   ·exact ⟨res,rfl⟩
   ·exact ⟨_,rfl⟩
 obtain ⟨d,rfl⟩:=hc
 exact h.put hS hd hna hlt htr htm hgh (put_plainC hp hct when_false)
end
theorem fitOps_get {P:Program} {nt:Nat} {ds:List (Option Nat)} {tr:List Nat}:∀ {lo:List Oper} {ls:List SOp} {n:Nat},fitOps P nt ds tr n lo ls=true→∀ {i:Nat} {s:SOp},ls[i]?=some s→∃ o,lo[i]?=some o∧(∀ t,o.dst=some t→t<nt) ∧
  (∀ j,s.k.asgTo=some j→o.dst=tr[j]?∧j<tr.length∧s.g=none) ∧
  (match o.guard,s.g with
    | none,none=>true
    | some (j,want),some (i',want')=>j == i'&&want == want'&&decide (i'<n+i)&&(match ds[i']? with | some (some _)=>true | _=>false)
    | _,_=>false)=true∧isK P ds tr o s.k=true∧(∀ j,j∈s.k.reads→j<n+i)
 | [],[],n,_,i,s,hs=>by simp at hs
 | [],_::_,n,h,i,s,hs=>by simp [fitOps] at h
 | _::_,[],n,h,i,s,hs=>by simp at hs
 | o::lo,s::ls,n,h,i,s',hs=>by
  simp only [fitOps,Bool.and_eq_true] at h
  obtain ⟨⟨⟨⟨⟨hf1,hf2⟩,hf3⟩,hf4⟩,hf5⟩,hf⟩:=h
  cases i with
  | zero =>
   simp only [List.getElem?_cons_zero,Option.some.injEq] at hs
   subst hs
   refine ⟨o,rfl,fun t ht=>by rw [ht] at hf1;simpa using hf1,fun j hj=>?_,hf3,hf4,fun j hj=>by simpa using (List.all_eq_true.1 hf5) j hj⟩
   rw [hj] at hf2
   simp only [Bool.and_eq_true,decide_eq_true_eq] at hf2
   exact ⟨hf2.1.1,hf2.1.2,by simpa using hf2.2⟩
  | succ i =>
   simp only [List.getElem?_cons_succ] at hs ⊢
   have:=fitOps_get hf hs
   rw [show n+1+i=n+(i+1) by omega] at this
   exact this
theorem resDsts_get:∀ {lo:List Oper} {ls:List SOp} {i:Nat} {o:Oper} {s:SOp},lo[i]?=some o→ls[i]?=some s→(resDsts lo ls)[i]?=some (resDst o s)
 | o::lo,s::ls,0,o',s',h1,h2=>by simp at h1 h2;subst h1 h2;rfl
 | o::lo,s::ls,i+1,o',s',h1,h2=>by simp at h1 h2 ⊢;simp only [resDsts,List.getElem?_cons_succ];exact resDsts_get h1 h2
 | [],_,i,o,s,h1,h2=>by simp at h1
 | _::_,[],i,o,s,h1,h2=>by simp at h2
theorem closures_pre:∀ (l:List Oper) (acc:List Nat),∃ r,closures acc l=acc++r∧r.length=l.length
 | [],acc=>⟨[],by simp [closures],rfl⟩
 | o::l,acc=>by
  obtain ⟨r,h1,h2⟩:=closures_pre l (acc++[closure acc o])
  exact ⟨closure acc o::r,by simp [closures,h1],by simp [h2]⟩
theorem closures_get:∀ (l:List Oper) (acc:List Nat) (i:Nat) (o:Oper),l[i]?=some o→∃ acc',(closures acc l).getD (acc.length+i) 0=closure acc' o∧∀ j,acc'.getD j 0≠0→acc'.getD j 0=(closures acc l).getD j 0
 | [],acc,i,o,h=>by simp at h
 | o::l,acc,0,o',h=>by
  simp at h
  subst h
  obtain ⟨r,h1,_⟩:=closures_pre l (acc++[closure acc o])
  refine ⟨acc,by simp [closures,h1],fun j hj=>?_⟩
  have hlt:j<acc.length:=by
   apply Classical.byContradiction
   intro hn
   apply hj
   simp [List.getD_eq_getElem?_getD,List.getElem?_eq_none (show acc.length≤j by omega)]
  rw [closures,h1]
  simp only [List.getD_eq_getElem?_getD,List.append_assoc]
  rw [List.getElem?_append_left hlt]
 | o::l,acc,i+1,o',h=>by
  simp at h
  have:=closures_get l (acc++[closure acc o]) i o' h
  simp only [List.length_append,List.length_cons,List.length_nil] at this
  rw [show acc.length+(0+1)+i=acc.length+(i+1) by omega] at this
  exact this
theorem closure_bits {acc:List Nat} {x:Nat}:∀ (l:List Edge) (s:Nat),(l.foldl (fun s e=>if Region.binds .any e=true then s ||| (1 <<< e.on ||| acc.getD e.on 0) else s) s).testBit x=true →
  s.testBit x=true∨∃ e∈l,Region.binds .any e=true∧(x=e.on∨(acc.getD e.on 0).testBit x=true)
 | [],s,h=>.inl h
 | e::l,s,h=>by
  simp only [List.foldl_cons] at h
  rcases closure_bits l _ h with h1 | ⟨e',h1,h2⟩
  ·split at h1
   ·rename_i hb
    rw [Nat.testBit_or,Nat.testBit_or,Bool.or_eq_true,Bool.or_eq_true] at h1
    rcases h1 with h1 | h1 | h1
    ·exact .inl h1
    ·refine .inr ⟨e,by simp,hb,.inl ?_⟩
     rw [Nat.one_shiftLeft,Nat.testBit_two_pow] at h1
     exact (of_decide_eq_true h1).symm
    ·exact .inr ⟨e,by simp,hb,.inr h1⟩
   ·exact .inl h1
  ·exact .inr ⟨e',by simp [h1],h2⟩
theorem closure_mem {l:List Oper} {i x:Nat} {o:Oper} (hi:l[i]?=some o) (hx:inC (closures [] l) i x=true):∃ e∈o.after,Region.binds .any e=true∧(x=e.on∨inC (closures [] l) e.on x=true):=by
 obtain ⟨acc,h1,h2⟩:=closures_get l [] i o hi
 simp only [List.length_nil,Nat.zero_add] at h1
 unfold inC at hx
 rw [h1] at hx
 rcases closure_bits _ _ hx with h | ⟨e,he,hb,hx⟩
 ·simp at h
 ·refine ⟨e,by simpa using he,hb,?_⟩
  rcases hx with hx | hx
  ·exact .inl hx
  ·right
   unfold inC
   rw [← h2 _ (by intro h;rw [h] at hx;simp at hx)]
   exact hx
def pushes (st:St) (cs:List D):St:=cs.foldl St.push st
theorem pushes_wf:∀ (cs:List D) {st:St},st.wf→(pushes st cs).wf∧(pushes st cs).n=st.n+cs.length
 | [],st,h=>⟨h,rfl⟩
 | c::cs,st,h=>by
  obtain ⟨h1,h2⟩:=pushes_wf cs (St.wf_push h c)
  exact ⟨h1,by rw [show pushes st (c::cs)=pushes (st.push c) cs from rfl,h2];simp only [St.push,List.length_cons];omega⟩
def sw (b:Bool) (x:D):D:=match b with | true=>x | false=>.dead
def segC (base:Nat→D) (n:Nat) (cs:List D) (T:Nat→Bool) (k:Nat):D :=
 if 1000+n≤k∧k<1000+n+cs.length then sw (T (k-1000)) (cs.getD (k-1000-n) .dead) else base k
theorem segC_in {base:Nat→D} {n:Nat} {cs:List D} {T:Nat→Bool} {i:Nat} (h1:n≤i) (h2:i<n+cs.length):segC base n cs T (1000+i)=sw (T i) (cs.getD (i-n) .dead):=by
 unfold segC
 rw [if_pos (by omega),show 1000+i-1000=i by omega]
theorem segC_out {base:Nat→D} {n:Nat} {cs:List D} {T:Nat→Bool} {k:Nat} (h:¬ (1000+n≤k∧k<1000+n+cs.length)):segC base n cs T k=base k:=by
 unfold segC
 rw [if_neg h]
theorem pushes_cont:∀ (cs:List D) {st:St},st.wf→(pushes st cs).cont=segC st.cont st.n cs fun _=>true
 | [],st,h=>by funext k;simp only [segC,pushes,List.foldl_nil,List.length_nil];rw [if_neg (by omega)]
 | c::cs,st,h=>by
  rw [show pushes st (c::cs)=pushes (st.push c) cs from rfl,pushes_cont cs (St.wf_push h c)]
  funext k
  simp only [segC,St.cont_push h,sw,List.length_cons]
  have e:(st.push c).n=st.n+1:=rfl
  rw [e]
  by_cases h1 : 1000+(st.n+1)≤k∧k<1000+(st.n+1)+cs.length
  ·rw [if_pos h1,if_pos (by omega)]
   obtain ⟨m,hm⟩:∃ m,k-1000-st.n=m+1:=⟨k-1000-st.n-1,by omega⟩
   rw [hm,show k-1000-(st.n+1)=m by omega]
   rfl
  ·rw [if_neg h1]
   by_cases h2:k=1000+st.n
   ·subst h2
    rw [upd_same,if_pos (by omega),show 1000+st.n-1000-st.n=0 by omega]
    rfl
   ·rw [upd_ne _ _ h2,if_neg (by omega)]
def OpAt (P:Program) (s:SOp) (st:St) (c:D):Prop :=
 match s.g with
 | none=>OpOk P s.k none st.rd st.cont c
 | some (j,want)=>∃ b,gd (st.rd (.t j)) want=some b∧OpOk P s.k (some b) st.rd st.cont c
theorem seg_facts {P:Program} {K:St→Prop}:∀ (seg rest:List SOp) {st:St},vcOps P K (seg++rest) st→(∀ s∈seg,s.k.isEff=false) →
  ∃ cs:List D,cs.length=seg.length∧(∀ (i:Nat) (s:SOp),seg[i]?=some s→OpAt P s (pushes st (cs.take i)) (cs.getD i .dead))∧vcOps P K rest (pushes st cs)
 | [],rest,st,h,_=>⟨[],rfl,fun i s hs=>by simp at hs,h⟩
 | s::seg,rest,st,h,hq=>by
  have step:∃ c,OpAt P s st c∧vcOps P K (seg++rest) (st.push c):=by
   obtain ⟨g,k⟩:=s
   cases g with
   | none =>
    obtain ⟨c,h1,h2⟩:=op_split (hq ⟨none,k⟩ (by simp)) h
    exact ⟨c,h1,h2⟩
   | some gg =>
    obtain ⟨j,want⟩:=gg
    simp only [List.cons_append,vcOps,guardVC] at h
    split at h
    ·rename_i b hb
     obtain ⟨c,h1,h2⟩:=op_split (hq ⟨some (j,want),k⟩ (by simp)) h
     exact ⟨c,⟨b,hb,h1⟩,h2⟩
    ·exact h.elim
  obtain ⟨c,h1,h2⟩:=step
  obtain ⟨cs,h3,h4,h5⟩:=seg_facts seg rest h2 fun s hs=>hq s (by simp [hs])
  refine ⟨c::cs,by simp [h3],fun i s' hs=>?_,h5⟩
  cases i with
  | zero=>simp at hs;subst hs;exact h1
  | succ i=>simp at hs;exact h4 i s' hs
theorem split_quiet:∀ sl:List SOp,∃ seg rest,sl=seg++rest∧(∀ s∈seg,s.k.isEff=false)∧(rest=[]∨∃ e r,rest=e::r∧e.k.isEff=true)
 | []=>⟨[],[],rfl,by simp,.inl rfl⟩
 | s::sl=>by
  cases h:s.k.isEff with
  | true=>exact ⟨[],s::sl,rfl,by simp,.inr ⟨s,sl,rfl,h⟩⟩
  | false =>
   obtain ⟨seg,rest,h1,h2,h3⟩:=split_quiet sl
   exact ⟨s::seg,rest,by rw [h1];rfl,fun x hx=>by rcases List.mem_cons.1 hx with rfl | hx;exact h;exact h2 x hx,h3⟩
theorem countP_lt {p q:Nat→Bool}:∀ (L:List Nat),(∀ x∈L,q x=true→p x=true)→(∃ x∈L,p x=true∧q x=false)→L.countP q<L.countP p
 | [],_,h=>by obtain ⟨x,hx,_⟩:=h;cases hx
 | a::L,h,hx=>by
  have hle:L.countP q≤L.countP p:=List.countP_mono_left fun x hx hq=>h x (by simp [hx]) hq
  obtain ⟨x,hx,h1,h2⟩:=hx
  rcases List.mem_cons.1 hx with rfl | hx
  ·rw [List.countP_cons_of_pos h1,List.countP_cons_of_neg (by simp [h2])];omega
  ·have ih:=countP_lt L (fun x hx hq=>h x (by simp [hx]) hq) ⟨x,hx,h1,h2⟩
   by_cases hq:q a=true
   ·rw [List.countP_cons_of_pos hq,List.countP_cons_of_pos (h a (by simp) hq)];omega
   ·rw [List.countP_cons_of_neg hq]
    exact Nat.lt_of_lt_of_le ih (by rw [List.countP_cons];omega)
theorem least' (p:Nat→Prop):∀ n,p n→∃ m,p m∧∀ k,p k→m≤k:=by
 intro n
 induction n using Nat.strongRecOn with
 | _ n ih =>
  intro hn
  by_cases h:∃ k,k<n∧p k
  ·obtain ⟨k,hk,hpk⟩:=h
   exact ih k hk hpk
  ·exact ⟨n,hn,fun k hk=>by
    by_cases hkn:k<n
    ·exact absurd ⟨k,hkn,hk⟩ h
    ·omega⟩
structure Rg (P:Program) (nt:Nat) (tr pre:List Nat) (ops:Array Oper) (l:List SOp) (kh:Nat):Prop where
 slots:Slots nt tr pre (resDsts ops.toList l)
 size:ops.size=l.length
 fit:fitOps P nt (resDsts ops.toList l) tr 0 ops.toList l=true
 pre:∀ s∈l,opPre pre s=true
 edges:edgesOk ops.toList=true
 draw:drawOk kh (closures [] ops.toList) l=true
section
variable {P:Program} {cx:Ctx} {nt:Nat} {tr pre:List Nat} {ops:Array Oper} {l:List SOp} {kh:Nat} {Q:Exit→Act→World→Prop}
theorem Rg.op (h:Rg P nt tr pre ops l kh) {i:Nat} {s:SOp} (hs:l[i]?=some s):∃ o,ops[i]?=some o∧(resDsts ops.toList l)[i]?=some (resDst o s)∧(∀ t,o.dst=some t→t<nt) ∧
  (∀ j,s.k.asgTo=some j→o.dst=tr[j]?∧j<tr.length∧pre.contains j=false) ∧
  (match o.guard,s.g with
    | none,none=>true
    | some (j,want),some (i',want')=>j == i'&&want == want'&&decide (i'<i)&&(match (resDsts ops.toList l)[i']? with | some (some _)=>true | _=>false)
    | _,_=>false)=true∧isK P (resDsts ops.toList l) tr o s.k=true∧(∀ j,j∈s.k.reads→j<i)∧(∀ j,X.v j∈s.k.xs→pre.contains j=false):=by
 obtain ⟨o,h1,h2,h3,h4,h5,h6⟩:=fitOps_get h.fit hs
 have hp:=h.pre s (List.mem_of_getElem? hs)
 simp only [opPre,Bool.and_eq_true,List.all_eq_true] at hp
 simp only [Nat.zero_add] at h4 h6
 exact ⟨o,by simpa using h1,resDsts_get h1 hs,h2,fun j hj=>⟨(h3 j hj).1,(h3 j hj).2.1,by have:=hp.1;rw [hj] at this;simpa using this⟩,h4,h5,h6,fun j hj=>by simpa using hp.2 _ hj⟩
theorem Rg.dr (h:Rg P nt tr pre ops l kh) {i:Nat} {s:SOp} (hs:l[i]?=some s):(∀ j,j∈s.k.reads→inC (closures [] ops.toList) i j=true)∧(∀ j want,s.g=some (j,want)→inC (closures [] ops.toList) i j=true) ∧
  (s.k.isEff=true→s.k.isApt=false→(∀ j,kh≤j→j<i→inC (closures [] ops.toList) i j=true)∧∀ j,i<j→j<l.length→inC (closures [] ops.toList) j i=true) ∧
  (∀ sz bytes b t,s.k=.apt sz bytes b t→aptD (closures [] ops.toList) l i b=true):=by
 have:=h.draw
 simp only [drawOk,List.all_eq_true] at this
 have:=this (s,i) (List.mem_zipIdx_iff_getElem?.2 hs)
 rw [Bool.and_eq_true,Bool.and_eq_true,List.all_eq_true] at this
 obtain ⟨⟨h1,h2⟩,h3⟩:=this
 refine ⟨h1,fun j want hg=>?_,fun he hna=>?_,fun sz bytes b t hk=>?_⟩
 ·simp only at h2;rw [hg] at h2;simpa using h2
 ·simp only at h3
  split at h3
  ·rename_i hk;rw [hk] at hna;cases hna
  ·simp only [Bool.and_eq_true,Bool.or_eq_true,Bool.not_eq_true',List.all_eq_true,decide_eq_true_eq,List.mem_range] at h3
   obtain ⟨h4,h5⟩:=h3.resolve_left (by simp [he])
   exact ⟨fun j hkj hj=>(h4 j hj).resolve_left (by omega),fun j hj hl=>(h5 j hl).resolve_left (by omega)⟩
 ·simp only at h3;rw [hk] at h3;exact h3
theorem setT_ne {T:Array Bool} {i j:Nat} (h:i≠j):(T.setIfInBounds i true).getD j false=T.getD j false:=_root_.Go.getD_set_ne false h
def Closed (ops:Array Oper) (T:Array Bool):Prop:=T.size=ops.size∧∀ j,T.getD j false=true→∀ x,inC (closures [] ops.toList) j x=true→T.getD x false=true
def unl (ops:Array Oper) (T:Array Bool):Nat:=(List.range ops.size).countP fun i=>!T.getD i false
theorem getD_both {T:Array Bool} {i:Nat} (h:i<T.size) (b:Bool):T.getD i b=T.getD i false:=by
 simp [Array.getD,h]
theorem ready_unl {T:Array Bool} (hT:Closed ops T) {i:Nat} (h:i∈Region.ready .any ops T):i<ops.size∧T.getD i false=false∧∀ x,inC (closures [] ops.toList) i x=true→T.getD x false=true:=by
 rw [mem_ready] at h
 obtain ⟨h1,o,ho,h2⟩:=h
 have hi:i<ops.size:=(Array.getElem?_eq_some_iff.1 ho).1
 refine ⟨hi,by rw [getD_both (by rw [hT.1];exact hi)] at h1;exact h1,fun x hx=>?_⟩
 obtain ⟨e,he,hb,hx⟩:=closure_mem (l:=ops.toList) (by simpa using ho) hx
 rcases hx with rfl | hx
 ·exact h2 e he hb
 ·exact hT.2 _ (h2 e he hb) x hx
theorem ready_ne {T:Array Bool} (hE:edgesOk ops.toList=true) (hT:T.size=ops.size) {i:Nat} (hi:i<ops.size) (hu:T.getD i false=false):Region.ready .any ops T≠[]:=by
 obtain ⟨m,hm,hmin⟩:=least' (fun i=>i<ops.size∧T.getD i false=false) i ⟨hi,hu⟩
 intro hr
 have:m∈Region.ready .any ops T:=by
  rw [mem_ready]
  refine ⟨by rw [getD_both (by rw [hT];exact hm.1)];exact hm.2,ops[m],by simp [hm.1],fun e he hb=>?_⟩
  simp only [edgesOk,List.all_eq_true] at hE
  have h1:=hE (ops[m],m) (List.mem_zipIdx_iff_getElem?.2 (by simp [hm.1])) e (by simpa using he)
  simp only [hb,Bool.not_true,Bool.false_or,decide_eq_true_eq] at h1
  cases h2:T.getD e.on false with
  | true=>rfl
  | false=>exact absurd (hmin e.on ⟨by omega,h2⟩) (by omega)
 rw [hr] at this
 cases this
theorem closed_set {T:Array Bool} (hT:Closed ops T) {i:Nat} (hi:i<ops.size) (hc:∀ x,inC (closures [] ops.toList) i x=true→T.getD x false=true):Closed ops (T.setIfInBounds i true):=by
 refine ⟨by simp [hT.1],fun j hj x hx=>?_⟩
 by_cases hxi:i=x
 ·subst hxi;simp [Array.getD,hT.1,hi]
 ·rw [setT_ne hxi]
  by_cases hji:i=j
  ·subst hji;exact hc x hx
  ·rw [setT_ne hji] at hj
   exact hT.2 j hj x hx
theorem getD_set_self {T:Array Bool} {i:Nat} (hi:i<T.size):(T.setIfInBounds i true).getD i false=true:=by simp [Array.getD,hi]
theorem unl_set {T:Array Bool} (hT:T.size=ops.size) {i:Nat} (hi:i<ops.size) (hu:T.getD i false=false):unl ops (T.setIfInBounds i true)<unl ops T:=by
 refine countP_lt _ (fun x hx hq=>?_) ⟨i,List.mem_range.2 hi,by simp [hu],by rw [getD_set_self (by omega)];rfl⟩
 by_cases hxi:i=x
 ·subst hxi;rw [getD_set_self (by omega)] at hq;cases hq
 ·rw [setT_ne hxi] at hq;exact hq
theorem unl_pos {T:Array Bool} {i:Nat} (hi:i<ops.size) (hu:T.getD i false=false) : 0<unl ops T:=by
 unfold unl
 rw [List.countP_pos_iff]
 exact ⟨i,List.mem_range.2 hi,by simp [hu]⟩
theorem gd_yieldsC {ds:List (Option Nat)} {ct:Nat→D} {done:Nat→Prop} {a:Act} {w:World} {i t:Nat} {want b:Bool} (h:Fd cx nt tr pre ds ct done a w) (hi:done i) (hds:ds[i]?=some (some t)) (hj:(ops[i]?).bind (·.dst)=some t) (hg:gd (rdC ct (.t i)) want=some b) :
  (yielded ops a.tmps i == some want)=b:=by
 obtain ⟨vl,fp,G,hp,_,htm,_⟩:=h.ex
 have he:PlG w (stab cx fp G w) (RefOk w ct vl) (a.tmps.getD t undef) (rdC ct (.t i)):=by
  rw [htm i t hi hds]
  exact opv_ok (hp.ok _)
 have hy:yielded ops a.tmps i=match a.tmps.getD t undef with | .bool b=>some b | _=>none:=by
  unfold yielded
  rw [hj,Option.bind_some]
  by_cases ht:t<a.tmps.size
  ·rw [getD_some ht]
   cases a.tmps.getD t undef<;>rfl
  ·have h1:a.tmps[t]?=none:=by simp;omega
   have h2:a.tmps.getD t undef=undef:=by simp [h1]
   rw [h1,h2]
   rfl
 unfold gd at hg
 rw [Option.bind_eq_some_iff] at hg
 obtain ⟨c,hc,hg⟩:=hg
 injection hg with hg
 rw [hy]
 generalize rdC ct (.t i)=d at he hc hg
 cases hgt:d.gate with
 | false =>
  rw [he.2 hgt]
  rw [hgt] at hg
  simp at hg
  subst hg
  rfl
 | true =>
  have h1:=he.1 hgt
  have hcore:d.core=.bool c:=by
   revert hc
   cases d.core<;>simp [D.bool?]
  rw [hcore] at h1
  rw [pl_bool h1]
  rw [hgt] at hg
  cases want<;>cases c<;>simp at hg<;>subst hg<;>rfl
theorem segC_set {base:Nat→D} {n:Nat} {cs:List D} {T:Array Bool} {i:Nat} (h1:n≤i) (h2:i<n+cs.length) (hi:i<T.size) :
  segC base n cs (fun j=>(T.setIfInBounds i true).getD j false)=upd (segC base n cs fun j=>T.getD j false) (1000+i) (cs.getD (i-n) .dead):=by
 funext k
 by_cases hk:k=1000+i
 ·subst hk
  rw [upd_same]
  unfold segC
  rw [if_pos (by omega),show 1000+i-1000=i by omega]
  dsimp only
  rw [getD_set_self hi]
  rfl
 ·rw [upd_ne _ _ hk]
  unfold segC
  by_cases hr : 1000+n≤k∧k<1000+n+cs.length
  ·rw [if_pos hr,if_pos hr]
   dsimp only
   rw [setT_ne (by omega)]
  ·rw [if_neg hr,if_neg hr]
def segA (ap:Option (Nat×Nat)) (base:Nat→D) (n:Nat) (cs:List D) (T:Nat→Bool) (k:Nat):D :=
 match ap with
 | none=>segC base n cs T k
 | some (e,b)=>if T e=true∧k=1000+b then .dead else segC base n cs T k
theorem segA_pos {base:Nat→D} {n:Nat} {cs:List D} {T:Nat→Bool} {e b k:Nat} (h:T e=true∧k=1000+b):segA (some (e,b)) base n cs T k=.dead:=if_pos h
theorem segA_neg {base:Nat→D} {n:Nat} {cs:List D} {T:Nat→Bool} {e b k:Nat} (h:¬ (T e=true∧k=1000+b)):segA (some (e,b)) base n cs T k=segC base n cs T k:=if_neg h
theorem segA_eq {ap:Option (Nat×Nat)} {base:Nat→D} {n:Nat} {cs:List D} {T:Nat→Bool} {k:Nat} (h:∀ e b,ap=some (e,b)→T e=true→k≠1000+b):segA ap base n cs T k=segC base n cs T k:=by
 cases ap with
 | none=>rfl
 | some p=>obtain ⟨e,b⟩:=p;exact segA_neg fun hh=>h e b rfl hh.1 hh.2
theorem segA_obj {ap:Option (Nat×Nat)} {base:Nat→D} {n:Nat} {cs:List D} {T:Nat→Bool} {k:Nat} (h:(segA ap base n cs T k).isObj=true):segA ap base n cs T k=segC base n cs T k:=by
 cases ap with
 | none=>rfl
 | some p =>
  obtain ⟨e,b⟩:=p
  by_cases hh:T e=true∧k=1000+b
  ·rw [segA_pos hh] at h;cases h
  ·exact segA_neg hh
theorem segA_congr {ap:Option (Nat×Nat)} {base:Nat→D} {n:Nat} {cs:List D} {T T':Nat→Bool} (h:∀ i,n≤i→i<n+cs.length→T i=T' i) (ha:∀ e b,ap=some (e,b)→n≤e∧e<n+cs.length):segA ap base n cs T=segA ap base n cs T':=by
 have hc:∀ k,segC base n cs T k=segC base n cs T' k:=fun k=>by
  unfold segC
  split
  ·rw [h (k-1000) (by omega) (by omega)]
  ·rfl
 funext k
 cases ap with
 | none=>exact hc k
 | some p =>
  obtain ⟨e,b⟩:=p
  obtain ⟨h1,h2⟩:=ha e b rfl
  by_cases hh:T e=true∧k=1000+b
  ·rw [segA_pos hh,segA_pos (by rw [← h e h1 h2];exact hh)]
  ·rw [segA_neg hh,segA_neg (by rw [← h e h1 h2];exact hh),hc k]
theorem segA_set {ap:Option (Nat×Nat)} {base:Nat→D} {n:Nat} {cs:List D} {T:Array Bool} {i:Nat} (h1:n≤i) (h2:i<n+cs.length) (hi:i<T.size) (ha:∀ e b,ap=some (e,b)→i≠e∧(T.getD e false=true→i≠b)) :
  segA ap base n cs (fun j=>(T.setIfInBounds i true).getD j false)=upd (segA ap base n cs fun j=>T.getD j false) (1000+i) (cs.getD (i-n) .dead):=by
 have hs:=segC_set (base:=base) (cs:=cs) h1 h2 hi
 cases ap with
 | none=>exact hs
 | some p =>
  obtain ⟨e,b⟩:=p
  obtain ⟨a1,a2⟩:=ha e b rfl
  have hset:(T.setIfInBounds i true).getD e false=T.getD e false:=setT_ne a1
  funext k
  by_cases hk:k=1000+i
  ·subst hk
   rw [upd_same,segA_neg (fun hh=>by rw [hset] at hh;exact a2 hh.1 (by omega)),hs,upd_same]
  ·rw [upd_ne _ _ hk]
   by_cases hh:T.getD e false=true∧k=1000+b
   ·exact (segA_pos (by rw [hset];exact hh)).trans (segA_pos hh).symm
   ·refine (segA_neg (by rw [hset];exact hh)).trans (Eq.trans ?_ (segA_neg hh).symm)
    rw [hs,upd_ne _ _ hk]
theorem segA_apt {base:Nat→D} {n:Nat} {cs:List D} {T:Array Bool} {e b:Nat} (h1:n≤e) (h2:e<n+cs.length) (hi:e<T.size) (_:T.getD e false=false) (hb:e≠b) :
  segA (some (e,b)) base n cs (fun j=>(T.setIfInBounds e true).getD j false)=upd (upd (segA (some (e,b)) base n cs fun j=>T.getD j false) (1000+b) .dead) (1000+e) (cs.getD (e-n) .dead):=by
 have hs:=segC_set (base:=base) (cs:=cs) h1 h2 hi
 have hset:(T.setIfInBounds e true).getD e false=true:=getD_set_self hi
 funext k
 by_cases hk:k=1000+e
 ·subst hk
  rw [upd_same,segA_neg (fun hh=>hb (by omega)),hs,upd_same]
 ·rw [upd_ne _ _ hk]
  by_cases hkb:k=1000+b
  ·subst hkb;rw [upd_same,segA_pos ⟨hset,rfl⟩]
  ·rw [upd_ne _ _ hkb,segA_neg (fun hh=>hkb hh.2),segA_neg (fun hh=>hkb hh.2),hs,upd_ne _ _ hk]
theorem segC_take {st:St} {cs:List D} {m:Nat} (hm:m≤cs.length):segC st.cont st.n (cs.take m) (fun _=>true)=segC st.cont st.n cs fun i=>decide (i<st.n+m):=by
 have htl:(cs.take m).length=m:=by simp;omega
 funext k
 unfold segC
 rw [htl]
 by_cases h1 : 1000+st.n≤k∧k<1000+st.n+m
 ·rw [if_pos h1,if_pos (by omega)]
  dsimp only
  rw [decide_eq_true (show k-1000<st.n+m by omega)]
  simp only [sw,List.getD_eq_getElem?_getD]
  rw [List.getElem?_take_of_lt (by omega)]
 ·rw [if_neg h1]
  by_cases h2 : 1000+st.n≤k∧k<1000+st.n+cs.length
  ·rw [if_pos h2]
   dsimp only
   rw [decide_eq_false (show ¬ k-1000<st.n+m by omega)]
   exact St.cont_out (by simp only [St.in,not_or,not_and];omega)
  ·rw [if_neg h2]
theorem seg_full {ds:List (Option Nat)} {st fin:St} {ap:Option (Nat×Nat)} {cs:List D} (hfw:fin.wf) (hfn:fin.n=st.n+cs.length) (hfc:fin.cont=segA ap st.cont st.n cs fun i=>decide (i<st.n+cs.length)) (ha:∀ e b,ap=some (e,b)→st.n≤e∧e<st.n+cs.length) {T:Array Bool} {a:Act} {w:World}
  (h:Fd cx nt tr pre ds (segA ap st.cont st.n cs fun i=>T.getD i false) (fun i=>T.getD i false=true) a w) (hall:∀ i,st.n≤i→i<st.n+cs.length→T.getD i false=true) (h1:∀ i,i<st.n→T.getD i false=true) :
  Fm cx nt tr pre ds fin a w:=by
 obtain ⟨⟨vl,fp,G,e1,e2,e3,egh⟩,e4,e5,e6⟩:=h
 have hsame:segA ap st.cont st.n cs (fun i=>T.getD i false)=fin.cont:=by
  rw [hfc]
  exact segA_congr (fun i q1 q2=>by rw [hall i q1 q2,decide_eq_true q2]) ha
 rw [hsame] at e1 e4
 refine ⟨⟨vl,fp,G,e1,e2,fun i t hi hit=>e3 i t ?_ hit,egh⟩,hfw,e4,e5,e6⟩
 rw [hfn] at hi
 by_cases hi':i<st.n
 ·exact h1 i hi'
 ·exact hall i (by omega) hi
structure Sg (P:Program) (ops:Array Oper) (st:St) (seg:List SOp) (ap:Option (Nat×Nat)) (cs:List D) (cst:Nat→St):Prop where
 len:cs.length=seg.length
 q:∀ m s,seg[m]?=some s→s.k.isEff=false∨∃ b,ap=some (st.n+m,b)
 cont:∀ m,m≤seg.length→(cst m).cont=segA ap st.cont st.n cs fun i=>decide (i<st.n+m)
 f:∀ (i:Nat) (s:SOp),seg[i]?=some s→s.k.isEff=false→OpAt P s (cst i) (cs.getD i .dead)
 ap:∀ e b,ap=some (e,b)→∃ m sz bytes t,e=st.n+m∧seg[m]?=some ⟨none,.apt sz bytes b t⟩∧sz=1∧AptF (cst m).cont bytes b t (cs.getD m .dead) ∧
  ∀ m' s',seg[m']?=some s'→m'≠m→b ∉ s'.k.reads∧(∀ want,s'.g≠some (b,want))∧(m'<m∨inC (closures [] ops.toList) (st.n+m') e=true∨(cs.getD m' .dead).refs (notInto (1000+b)))
 wf:(cst seg.length).wf
 n:(cst seg.length).n=st.n+seg.length
theorem Sg.apr {st:St} {seg:List SOp} {ap:Option (Nat×Nat)} {cs:List D} {cst:Nat→St} (h:Sg P ops st seg ap cs cst):∀ e b,ap=some (e,b)→st.n≤e∧e<st.n+cs.length:=fun e b he=>by
 obtain ⟨m,sz,bytes,t,h1,h2,_⟩:=h.ap e b he
 have:=(List.getElem?_eq_some_iff.1 h2).1
 rw [h.len];omega
theorem seg_any (hR:Rg P nt tr pre ops l kh) {st:St} (hkn:kh≤st.n) (_:st.wf) {seg rest:List SOp} (hl:l.drop st.n=seg++rest) (hb:rest=[]∨∃ e r,rest=e::r∧e.k.isEff=true∧e.k.isApt=false)
  {ap:Option (Nat×Nat)} {cs:List D} {cst:Nat→St} (hg:Sg P ops st seg ap cs cst)
  (hK:∀ (fuel:Nat) (T:Array Bool) (a:Act) (w:World),Closed ops T→(∀ i,i<ops.size→(T.getD i false=true↔i<st.n+seg.length))→unl ops T≤fuel→Fm cx nt tr pre (resDsts ops.toList l) (cst seg.length) a w→wpAny P .any ops Q fuel T a w) :
  ∀ (fuel:Nat) (T:Array Bool) (a:Act) (w:World),Closed ops T→(∀ i,i<st.n→T.getD i false=true)→(∀ i,st.n+seg.length≤i→i<ops.size→T.getD i false=false)→unl ops T≤fuel →
   Fd cx nt tr pre (resDsts ops.toList l) (segA ap st.cont st.n cs fun i=>T.getD i false) (fun i=>T.getD i false=true) a w→wpAny P .any ops Q fuel T a w:=by
 have hlen:=hg.len
 have hfc:=hg.cont seg.length (Nat.le_refl _)
 have hfn:=hg.n
 rw [← hlen] at hfc hfn
 have hsl:∀ i,l[st.n+i]?=(seg++rest)[i]?:=fun i=>by rw [← hl,List.getElem?_drop]
 have hll:l.length-st.n=seg.length+rest.length:=by have:=congrArg List.length hl;simpa using this
 intro fuel
 induction fuel with
 | zero =>
  intro T a w hT h1 h2 hu h
  refine hK 0 T a w hT (fun i hi=>⟨fun ht=>?_,fun hlt=>?_⟩) hu ?_
  ·apply Classical.byContradiction;intro hn;rw [h2 i (by omega) hi] at ht;cases ht
  ·cases ht:T.getD i false with
   | true=>rfl
   | false=>have:=unl_pos hi ht;omega
  ·have hall:∀ i,st.n≤i→i<st.n+cs.length→T.getD i false=true:=by
    intro i ha hb'
    cases ht:T.getD i false with
    | true=>rfl
    | false=>have:=unl_pos (ops:=ops) (i:=i) (by rw [hR.size];omega) ht;omega
   have:=seg_full (fin:=cst cs.length) (by rw [hlen];exact hg.wf) hfn hfc hg.apr h hall h1
   rwa [hlen] at this
 | succ fuel ih =>
  intro T a w hT h1 h2 hu h
  by_cases hall:∀ i,st.n≤i→i<st.n+cs.length→T.getD i false=true
  ·refine hK (fuel+1) T a w hT (fun i hi=>⟨fun ht=>?_,fun hlt=>?_⟩) hu (by
    have:=seg_full (fin:=cst cs.length) (by rw [hlen];exact hg.wf) hfn hfc hg.apr h hall h1
    rwa [hlen] at this)
   ·apply Classical.byContradiction;intro hn;rw [h2 i (by omega) hi] at ht;cases ht
   ·by_cases hi':i<st.n
    ·exact h1 i hi'
    ·exact hall i (by omega) (by omega)
  ·simp only [Classical.not_forall] at hall
   obtain ⟨i0,ha,hb0,hu0⟩:=hall
   have hu0:T.getD i0 false=false:=by simpa using hu0
   have hi0:i0<ops.size:=by rw [hR.size];omega
   refine ⟨fun hr=>absurd hr (ready_ne hR.edges hT.1 hi0 hu0),fun i hi=>?_⟩
   obtain ⟨hio,hiu,hic⟩:=ready_unl hT hi
   have hige:st.n≤i:=by
    apply Classical.byContradiction;intro hn;rw [h1 i (by omega)] at hiu;cases hiu
   have hilt:i<st.n+seg.length:=by
    apply Classical.byContradiction
    intro hn
    rcases hb with rfl | ⟨e,r,rfl,he,hea⟩
    ·simp only [List.length_nil] at hll;rw [hR.size] at hio;omega
    ·have hle:l[st.n+seg.length]?=some e:=by rw [hsl,List.getElem?_append_right (Nat.le_refl _)];simp
     obtain ⟨d1,d2⟩:=(hR.dr hle).2.2.1 he hea
     by_cases hie:i=st.n+seg.length
     ·subst hie
      rw [hic i0 (d1 i0 (by omega) (by omega))] at hu0;cases hu0
     ·have:=hic _ (d2 i (by omega) (by rw [← hR.size];exact hio))
      rw [h2 _ (Nat.le_refl _) (by omega)] at this;cases this
   obtain ⟨m,rfl⟩:∃ m,i=st.n+m:=⟨i-st.n,by omega⟩
   have hm:m<seg.length:=by omega
   have hs:seg[m]?=some seg[m]:=List.getElem?_eq_getElem hm
   have hls:l[st.n+m]?=some seg[m]:=by rw [hsl,List.getElem?_append_left hm,hs]
   generalize hsm:seg[m]=s at hs hls
   obtain ⟨o,ho,hd,hlt,hasg,hgd,hk,hreads,hxs⟩:=hR.op hls
   obtain ⟨r1,r2,_⟩:=hR.dr hls
   have hcm:=hg.cont m (by omega)
   have hout:∀ k,1000+st.n≤k→st.cont k=.dead:=fun k hk=>St.cont_out (by simp only [St.in,not_or,not_and];omega)
   have hval:∀ j,j<st.n+m→T.getD j false=true→(∀ e b,ap=some (e,b)→T.getD e false=true∨e<st.n+m→j≠b)→(cst m).cont (1000+j)=segA ap st.cont st.n cs (fun i=>T.getD i false) (1000+j):=by
    intro j hj ht hjb
    rw [hcm,segA_eq fun e b he h1 h2=>hjb e b he (.inr (by simpa using h1)) (by omega),segA_eq fun e b he h1 h2=>hjb e b he (.inl h1) (by omega)]
    unfold segC
    by_cases hjn:st.n≤j
    ·rw [if_pos (by omega),if_pos (by omega),show 1000+j-1000=j by omega]
     dsimp only
     rw [ht,decide_eq_true hj]
    ·rw [if_neg (by omega),if_neg (by omega)]
   have hct:(segA ap st.cont st.n cs (fun i=>T.getD i false) (1000+(st.n+m))).isObj=false:=by
    cases ho:(segA ap st.cont st.n cs (fun i=>T.getD i false) (1000+(st.n+m))).isObj with
    | false=>rfl
    | true =>
     have:=segA_obj ho
     rw [this,segC_in (by omega) (by omega),hiu] at ho
     cases ho
   have hnext':∀ a' w',Fd cx nt tr pre (resDsts ops.toList l) (segA ap st.cont st.n cs fun i=>(T.setIfInBounds (st.n+m) true).getD i false) (fun j=>T.getD j false=true∨j=st.n+m) a' w' →
     wpAny P .any ops Q fuel (T.setIfInBounds (st.n+m) true) a' w':=by
    intro a' w' hF
    refine ih _ a' w' (closed_set hT hio hic) (fun j hj=>?_) (fun j hj hj'=>?_) ?_ ?_
    ·rw [setT_ne (by omega)];exact h1 j hj
    ·rw [setT_ne (by omega)];exact h2 j hj hj'
    ·have:=unl_set hT.1 hio hiu;omega
    ·obtain ⟨⟨vl,fp,G,e1,e2,e3,egh⟩,e4,e5,e6⟩:=hF
     refine ⟨⟨vl,fp,G,e1,e2,fun j t hj=>e3 j t ?_,egh⟩,e4,e5,e6⟩
     by_cases hji:st.n+m=j
     ·exact .inr hji.symm
     ·rw [setT_ne hji] at hj;exact .inl hj
   by_cases hse:s.k.isEff=false
   case neg =>
    rcases hg.q m s hs with hh | ⟨b,hap⟩
    ·exact absurd hh hse
    obtain ⟨m',sz,bytes,t,q1,q2,rfl,hF,q3⟩:=hg.ap _ _ hap
    have hmm:m'=m:=by omega
    subst hmm
    rw [hs] at q2
    injection q2 with q2
    subst q2
    subst hap
    have hbl:b<st.n+m':=hreads b (by simp [Kp.reads])
    have htl:t<st.n+m':=hreads t (by simp [Kp.reads])
    have hbT:T.getD b false=true:=hic b (r1 b (by simp [Kp.reads]))
    have htT:T.getD t false=true:=hic t (r1 t (by simp [Kp.reads]))
    have hnev:∀ {k:Nat},¬ ((fun i=>T.getD i false) (st.n+m')=true∧k=1000+b):=fun hh=>by
     have:=hh.1;simp only [hiu] at this;cases this
    have hnev2:∀ {k:Nat},¬ ((fun i=>decide (i<st.n+m')) (st.n+m')=true∧k=1000+b):=fun hh=>by
     have:=hh.1;simp at this
    have hvac:∀ j e b',some (st.n+m',b)=some (e,b')→T.getD e false=true∨e<st.n+m'→j≠b':=fun j e b' he hor=>by
     injection he with he
     injection he with he1 he2
     subst he1
     rw [hiu] at hor
     rcases hor with hh | hh
     ·cases hh
     ·omega
    have hF':AptF (segA (some (st.n+m',b)) st.cont st.n cs fun i=>T.getD i false) bytes b t (cs.getD m' .dead):=by
     obtain ⟨y,z0,l0,mm,g1,g2,g3,g4,g5,g6,g7,g8⟩:=hF
     refine ⟨y,z0,l0,mm,by rw [← hval b hbl hbT (hvac b)];exact g1,g2,g3,by rw [← hval t htl htT (hvac t)];exact g4,g5,g6,g7,fun k=>?_⟩
     rw [segA_neg hnev]
     by_cases hr : 1000+st.n≤k∧k<1000+st.n+cs.length
     ·obtain ⟨i,rfl⟩:∃ i,k=1000+i:=⟨k-1000,by omega⟩
      rw [segC_in (by omega) (by omega)]
      cases ht:T.getD i false with
      | false=>exact trivial
      | true =>
       by_cases him:i<st.n+m'
       ·have:=g8 (1000+i)
        rw [hcm,segA_neg hnev2,segC_in (by omega) (by omega),decide_eq_true him] at this
        exact this
       ·have hne:i≠st.n+m':=fun hh=>by rw [hh,hiu] at ht;cases ht
        obtain ⟨s',hs'⟩:∃ s',seg[i-st.n]?=some s':=⟨_,List.getElem?_eq_getElem (by omega)⟩
        rcases (q3 (i-st.n) s' hs' (by omega)).2.2 with hh | hh | hh
        ·omega
        ·rw [show st.n+(i-st.n)=i by omega] at hh
         have:=hT.2 i ht _ hh
         rw [hiu] at this;cases this
        ·exact hh
     ·rw [segC_out hr]
      have:=g8 k
      rw [hcm,segA_neg hnev2,segC_out hr] at this
      exact this
    have hog:o.guard=none:=by
     cases hog:o.guard with
     | none=>rfl
     | some gg=>rw [hog] at hgd;cases hgd
    unfold wpOp
    rw [ho]
    simp only
    have hw:Region.wanted o (yielded ops a.tmps)=true:=by simp [Region.wanted,hog]
    rw [if_pos hw]
    refine .inl ?_
    obtain ⟨vl,fp,G,hp,htr,htm,hgh⟩:=h.ex
    simp only [isK] at hk
    split at hk<;>try (cases hk;done)
    rename_i s' x' t0 t' hop
    have hob:=opBuiltin_s hop
    simp only [Bool.and_eq_true,beq_iff_eq] at hk
    obtain ⟨⟨⟨hk1,hk2⟩,rfl⟩,hk3⟩:=hk
    split at hk3<;>try (cases hk3;done)
    rename_i e he
    simp only [Bool.and_eq_true] at hk3
    obtain ⟨hk4,hk5⟩:=hk3
    split at hk5<;>try (cases hk5;done)
    rename_i i hi
    simp only [Bool.and_eq_true,decide_eq_true_eq,Option.any_eq_true] at hk5
    obtain ⟨⟨⟨hsz,hby⟩,hisz⟩,z,hz,hzs⟩:=hk5
    have hbi:i.bytes=bytes:=by
     unfold bytesT at hk4
     rw [hi] at hk4
     simpa using hk4
    have hty:=sliceT_under he
    obtain ⟨v',w',hrun,fp',G',hp'⟩:=apt_hp (ty:=o.type) (ke:=1000+(st.n+m')) hp hF' (by rw [segA_neg hnev,segC_in (by omega) (by omega),hiu];rfl) hty hi hz hzs hisz hbi hby
    have hvb:(a.eval s')=vl (1000+b):=isX_t hk1 fun t2=>htm b t2 hbT
    have hvs:(a.eval x')=vl (1000+t):=isX_t hk2 fun t2=>htm t t2 htT
    rw [← hvb,← hvs] at hrun
    refine wp_of_value (v:=v') (w':=w') ?_ (hnext' _ _ ?_)
    ·simp only [execOp,hob,resolve,invoke,builtin,Sem.run_bind,Sem.run_pure,Result.andThen_ok,List.map_toArray,List.map_cons,List.map_nil,hrun]
    ·rw [segA_apt (by omega) (by omega) (by rw [hT.1];exact hio) hiu (by omega),show st.n+m'-st.n=m' by omega]
     exact Fd.put' hR.slots (fun j hj=>by
      by_cases hjb:j=1000+b
      ·subst hjb;exact upd_same _ _ _
      ·rw [upd_ne _ _ hjb];exact h.dd j hj) h.size h.defers hd rfl hlt htr htm hgh ⟨_,_,hp'⟩
   have hne:∀ e b,ap=some (e,b)→st.n+m≠e:=fun e b he hh=>by
    obtain ⟨m',sz,bytes,t,q1,q2,_⟩:=hg.ap e b he
    have:m'=m:=by omega
    subst this
    rw [hs] at q2
    injection q2 with q2
    rw [q2] at hse
    cases hse
   have hnr:∀ e b,ap=some (e,b)→b ∉ s.k.reads∧∀ want,s.g≠some (b,want):=fun e b he=>by
    obtain ⟨m',sz,bytes,t,q1,q2,_,_,q3⟩:=hg.ap e b he
    have:=q3 m s hs (fun hh=>hne e b he (by omega))
    exact ⟨this.1,this.2.1⟩
   have hna:s.k.asgTo=none:=by
    revert hse;cases s.k<;>simp [Kp.isEff,Kp.asgTo]
   have hop:=hg.f m s hs hse
   have hout:∀ k,1000+st.n≤k→st.cont k=.dead:=fun k hk=>St.cont_out (by simp only [St.in,not_or,not_and];omega)
   have hrd:∀ y,y∈s.k.xs→∀ x,isX (resDsts ops.toList l) tr x y=true→(cst m).rd y=rdC (segA ap st.cont st.n cs fun i=>T.getD i false) y:=by
    intro y hy x hxy
    rw [← rdC_st]
    cases y with
    | t j =>
     have hj:=reads_of hy
     show opv _ _=opv _ _
     rw [hval j (hreads j hj) (hic j (r1 j hj)) fun e b he _ hjb=>(hnr e b he).1 (hjb▸hj)]
    | v j =>
     have hj:j<1000:=by
      have hjt:∃ t,tr[j]?=some t:=by
       cases x
       case tmp t=>exact ⟨t,by simpa [isX] using hxy⟩
       all_goals (unfold isX at hxy;split at hxy<;>first | contradiction | cases hxy)
      obtain ⟨t,ht⟩:=hjt
      have:=(List.getElem?_eq_some_iff.1 ht).1;have:=hR.slots.few;omega
     show opv _ _=opv _ _
     rw [hcm,segA_eq fun e b _ _ hh=>by omega,segA_eq fun e b _ _ hh=>by omega]
     unfold segC
     rw [if_neg (by omega),if_neg (by omega)]
    | i n=>rfl
    | k d=>rfl
    | g n=>rfl
   have hme:∀ k,((cst m).cont k).isObj=true→segC st.cont st.n cs (fun _=>true) k=(cst m).cont k:=by
    intro k hk
    rw [hcm] at hk ⊢
    have hsa:=segA_obj hk
    rw [hsa] at hk ⊢
    by_cases hr : 1000+st.n≤k∧k<1000+st.n+cs.length
    ·obtain ⟨i,rfl⟩:∃ i,k=1000+i:=⟨k-1000,by omega⟩
     rw [segC_in (by omega) (by omega)] at hk ⊢
     rw [segC_in (by omega) (by omega)]
     cases ht:decide (i<st.n+m) with
     | true=>rfl
     | false=>rw [ht] at hk;cases hk
    ·rw [segC_out hr,segC_out hr]
   have hmono:∀ k c,lk (cst m).cont k=some c→lk (segC st.cont st.n cs fun _=>true) k=some c:=by
    intro k c hk
    unfold lk at hk ⊢
    split at hk
    ·rename_i ho'
     rw [hme k ho',if_pos ho']
     exact hk
    ·cases hk
   have hob:∀ j,(segA ap st.cont st.n cs (fun i=>T.getD i false) j).isObj=true→segC st.cont st.n cs (fun _=>true) j=segA ap st.cont st.n cs (fun i=>T.getD i false) j:=by
    intro j hj
    have hsa:=segA_obj hj
    rw [hsa] at hj ⊢
    by_cases hr : 1000+st.n≤j∧j<1000+st.n+cs.length
    ·obtain ⟨i,rfl⟩:∃ i,j=1000+i:=⟨j-1000,by omega⟩
     rw [segC_in (by omega) (by omega)] at hj ⊢
     rw [segC_in (by omega) (by omega)]
     cases ht:T.getD i false with
     | true=>rfl
     | false=>rw [ht] at hj;cases hj
    ·rw [segC_out hr,segC_out hr]
   have hlo1:∀ j,j<1000→(cst m).cont j=segC st.cont st.n cs (fun _=>true) j:=fun j hj=>by
    rw [hcm,segA_eq fun e b _ _ hh=>by omega]
    unfold segC
    rw [if_neg (by omega),if_neg (by omega)]
   have hlo2:∀ j,j<1000→segC st.cont st.n cs (fun _=>true) j=segA ap st.cont st.n cs (fun i=>T.getD i false) j:=fun j hj=>by
    rw [segA_eq fun e b _ _ hh=>by omega]
    unfold segC
    rw [if_neg (by omega),if_neg (by omega)]
   have hdone:∀ j,j∈s.k.reads→T.getD j false=true:=fun j hj=>hic j (r1 j hj)
   have hnext:∀ a' w',Fd cx nt tr pre (resDsts ops.toList l) (upd (segA ap st.cont st.n cs fun i=>T.getD i false) (1000+(st.n+m)) (cs.getD m .dead)) (fun j=>T.getD j false=true∨j=st.n+m) a' w' →
     wpAny P .any ops Q fuel (T.setIfInBounds (st.n+m) true) a' w':=by
    intro a' w' hF
    refine hnext' a' w' ?_
    rw [segA_set (by omega) (by omega) (by rw [hT.1];exact hio) (fun e b he=>⟨hne e b he,fun hTe hh=>by
      obtain ⟨m',sz,bytes,t,q1,q2,_⟩:=hg.ap e b he
      have hle:l[e]?=some ⟨none,.apt sz bytes b t⟩:=by rw [q1,hsl,List.getElem?_append_left (List.getElem?_eq_some_iff.1 q2).1,q2]
      have:=hT.2 e hTe b ((hR.dr hle).1 b (by simp [Kp.reads]))
      rw [← hh,hiu] at this;cases this⟩),show st.n+m-st.n=m by omega]
    exact hF
   unfold wpOp
   rw [ho]
   simp only
   obtain ⟨g0,k⟩:=s
   cases hog:o.guard with
   | none =>
    cases g0 with
    | some _=>rw [hog] at hgd;cases hgd
    | none =>
     have hw:Region.wanted o (yielded ops a.tmps)=true:=by simp [Region.wanted,hog]
     rw [if_pos hw]
     exact .inl (Oper.wp_mono hnext (q_step hR.slots h hct (g:=none) (by simp) hk hd hna hlt hrd hdone hxs hob hlo2 (OpOk.mono hmono hlo1 hop)))
   | some gg =>
    obtain ⟨j,want⟩:=gg
    cases g0 with
    | none=>rw [hog] at hgd;cases hgd
    | some g1 =>
     obtain ⟨i',want'⟩:=g1
     rw [hog] at hgd
     simp only [Bool.and_eq_true,beq_iff_eq,decide_eq_true_eq] at hgd
     obtain ⟨⟨⟨rfl,rfl⟩,hjn⟩,hj2⟩:=hgd
     have hjd:∃ t,(resDsts ops.toList l)[j]?=some (some t):=by
      split at hj2
      ·exact ⟨_,by assumption⟩
      ·cases hj2
     obtain ⟨t,hjd⟩:=hjd
     obtain ⟨b,hgb,hop⟩:=hop
     have hjT:T.getD j false=true:=hic j (r2 j want rfl)
     have hwb:Region.wanted o (yielded ops a.tmps)=b:=by
      simp only [Region.wanted,hog]
      refine gd_yieldsC h hjT hjd (by have:=resDsts_dst hjd;simpa using this) ?_
      rw [← hgb]
      show gd (opv _ _) _=gd (opv _ _) _
      rw [hval j hjn hjT fun e b' he _ hjb=>(hnr e b' he).2 want (by rw [hjb])]
     cases b with
     | true =>
      rw [if_pos hwb]
      exact .inl (Oper.wp_mono hnext (q_step hR.slots h hct (g:=some true) (by simp) hk hd hna hlt hrd hdone hxs hob hlo2 (OpOk.mono hmono hlo1 hop)))
     | false =>
      rw [if_neg (by rw [hwb];simp)]
      exact hnext _ _ (q_skip hR.slots h hct hd hna hlt hop)
theorem put_push {st:St} {k:Nat} (h1 : 1000≤k) (hk:k<1000+st.n) (c d:D):(st.put k c).push d=(st.push d).put k c:=by
 have e1:st.put k c=⟨st.env,st.n,setN st.tmp (999+st.n-k) c⟩:=by unfold St.put;rw [if_neg (by omega),if_pos hk]
 have e2:(st.push d).put k c=⟨st.env,st.n+1,setN (d::st.tmp) (999+(st.n+1)-k) c⟩:=by
  unfold St.put;rw [if_neg (by omega),if_pos (by show k<1000+(st.n+1);omega)];rfl
 rw [e1,e2,show 999+(st.n+1)-k=(999+st.n-k)+1 by omega]
 rfl
theorem pushes_put {k:Nat} (h1 : 1000≤k) (c:D):∀ (cs:List D) {st:St},st.wf→k<1000+st.n→pushes (st.put k c) cs=(pushes st cs).put k c
 | [],st,_,_=>rfl
 | d::cs,st,hw,hk=>by
  show pushes ((st.put k c).push d) cs=(pushes (st.push d) cs).put k c
  rw [put_push h1 hk]
  exact pushes_put h1 c cs (St.wf_push hw d) (by show k<1000+(st.n+1);omega)
theorem pushes_app (st:St) (a b:List D):pushes st (a++b)=pushes (pushes st a) b:=by unfold pushes;rw [List.foldl_append]
theorem mv_form {k:Kp} (h:(match k with | .mv (.v _)=>true | _=>false)=true):∃ j,k=Kp.mv (.v j):=by
 cases k<;>try (cases h;done)
 rename_i x
 cases x<;>try (cases h;done)
 exact ⟨_,rfl⟩
theorem isX_v {ds:List (Option Nat)} {tr:List Nat} {x:Operand} {j:Nat} (h:isX ds tr x (.v j)=true):∃ t,tr[j]?=some t:=by
 cases x
 case tmp t=>exact ⟨t,by simpa [isX] using h⟩
 all_goals (unfold isX at h;split at h<;>first | contradiction | cases h)
theorem seg_split (hR:Rg P nt tr pre ops l kh) {K:St→Prop} {sl:List SOp} {st:St} (hl:l.drop st.n=sl) (hwf:st.wf) (hv:vcOps P K sl st) :
  ∃ seg rest ap cs cst,sl=seg++rest∧(rest=[]∨∃ e r,rest=e::r∧e.k.isEff=true∧e.k.isApt=false)∧Sg P ops st seg ap cs cst∧vcOps P K rest (cst seg.length):=by
 obtain ⟨s1,r1,rfl,hq1,hb1⟩:=split_quiet sl
 obtain ⟨cs1,hlen1,hf1,hv1⟩:=seg_facts s1 r1 hv hq1
 have hsl:∀ i,l[st.n+i]?=(s1++r1)[i]?:=fun i=>by rw [← hl,List.getElem?_drop]
 obtain ⟨pw1,pn1⟩:=pushes_wf cs1 hwf
 have quiet:(r1=[]∨∃ e r,r1=e::r∧e.k.isEff=true∧e.k.isApt=false)→∃ seg rest ap cs cst,s1++r1=seg++rest∧(rest=[]∨∃ e r,rest=e::r∧e.k.isEff=true∧e.k.isApt=false)∧Sg P ops st seg ap cs cst∧vcOps P K rest (cst seg.length):=by
  intro hb
  have htk:cs1.take s1.length=cs1:=by rw [← hlen1,List.take_length]
  refine ⟨s1,r1,none,cs1,fun m=>pushes st (cs1.take m),rfl,hb,⟨hlen1,fun m s hs=>.inl (hq1 s (List.mem_of_getElem? hs)),fun m hm=>?_,fun i s hs _=>hf1 i s hs,fun e b he=>(by cases he),?_,?_⟩,?_⟩
  ·rw [pushes_cont _ hwf];exact segC_take (by omega)
  ·rw [htk];exact pw1
  ·rw [htk,pn1,hlen1]
  ·dsimp only;rw [htk];exact hv1
 rcases hb1 with rfl | ⟨e,r,rfl,he⟩
 ·exact quiet (.inl rfl)
 by_cases hap:e.k.isApt=false
 ·exact quiet (.inr ⟨e,r,rfl,he,hap⟩)
 obtain ⟨g,k⟩:=e
 obtain ⟨sz,bytes,b,t,rfl⟩:∃ sz bytes b t,k=.apt sz bytes b t:=by
  cases k<;>first | exact ⟨_,_,_,_,rfl⟩ | exact absurd rfl hap
 have hg:g=none:=by
  cases g with
  | none=>rfl
  | some gg =>
   obtain ⟨j,want⟩:=gg
   simp only [vcOps,guardVC] at hv1
   split at hv1
   ·cases hv1.1
   ·exact hv1.elim
 subst hg
 obtain ⟨_,hv1⟩:=hv1
 obtain ⟨rfl,c,hF,hlate,hv2⟩:=apt_split hv1
 obtain ⟨s2,r2,rfl,hq2,hb2⟩:=split_quiet r
 have hle:l[st.n+s1.length]?=some ⟨none,.apt 1 bytes b t⟩:=by rw [hsl,List.getElem?_append_right (Nat.le_refl _)];simp
 have hD:=(hR.dr hle).2.2.2 1 bytes b t rfl
 simp only [aptD,List.all_eq_true] at hD
 have hD':∀ m' s',(s1++⟨none,.apt 1 bytes b t⟩::(s2++r2))[m']?=some s'→m'≠s1.length→s'.k.isApt=false∧b ∉ s'.k.reads∧(∀ want,s'.g≠some (b,want))∧(m'<s1.length∨inC (closures [] ops.toList) (st.n+m') (st.n+s1.length)=true∨s'.isMv=true):=by
  intro m' s' hs' hne
  have hs'':l[st.n+m']?=some s':=by rw [hsl,hs']
  have:=hD (s',st.n+m') (List.mem_zipIdx_iff_getElem?.2 hs'')
  rw [Bool.or_eq_true] at this
  have:=this.resolve_left (by simp only [decide_eq_true_eq];omega)
  simp only [Bool.and_eq_true,Bool.or_eq_true,Bool.not_eq_true',decide_eq_true_eq] at this
  obtain ⟨⟨⟨q1,q2⟩,q3⟩,q4⟩:=this
  refine ⟨q1,fun hh=>?_,fun want hh=>?_,?_⟩
  ·rw [List.contains_iff_mem.2 hh] at q2;cases q2
  ·rw [hh] at q3;simp at q3
  ·rcases q4 with (q4 | q4) | q4
   ·exact .inl (by omega)
   ·exact .inr (.inl q4)
   ·exact .inr (.inr q4)
 have hbl:b<st.n+s1.length:=by
  obtain ⟨o,_,_,_,_,_,_,h6,_⟩:=hR.op hle
  exact h6 b (by simp [Kp.reads])
 have hb2':r2=[]∨∃ e r,r2=e::r∧e.k.isEff=true∧e.k.isApt=false:=by
  rcases hb2 with h | ⟨e,r,rfl,he2⟩
  ·exact .inl h
  ·exact .inr ⟨e,r,rfl,he2,(hD' (s1.length+1+s2.length) e (by
    rw [List.getElem?_append_right (by omega),show s1.length+1+s2.length-s1.length=s2.length+1 by omega,List.getElem?_cons_succ,List.getElem?_append_right (Nat.le_refl _)];simp) (by omega)).1⟩
 obtain ⟨cs2,hlen2,hf2,hv3⟩:=seg_facts s2 r2 hv2 hq2
 have hk1000 : 1000≤1000+b:=by omega
 have hpn:(pushes st cs1).n=st.n+s1.length:=by rw [pn1,hlen1]
 have hput:∀ m2,pushes (((pushes st cs1).put (1000+b) .dead).push c) (cs2.take m2)=(pushes st ((cs1++c::cs2).take (s1.length+1+m2))).put (1000+b) .dead:=by
  intro m2
  rw [put_push hk1000 (by omega),pushes_put hk1000 _ _ (St.wf_push pw1 c) (by show _<1000+((pushes st cs1).n+1);omega)]
  congr 1
  rw [show (cs1++c::cs2).take (s1.length+1+m2)=cs1++(c::cs2.take m2) by
   rw [show s1.length+1+m2=cs1.length+(m2+1) by omega,List.take_length_add_append,List.take_succ_cons],pushes_app]
  rfl
 have htl:(cs1++c::cs2).take (s1.length+1+s2.length)=cs1++c::cs2:=List.take_of_length_le (by simp;omega)
 have hsegl:(s1++⟨none,.apt 1 bytes b t⟩::s2).length=s1.length+1+s2.length:=by simp;omega
 have htl1:∀ m,m≤s1.length→(cs1++c::cs2).take m=cs1.take m:=fun m hm=>List.take_append_of_le_length (by omega)
 obtain ⟨pwf,pnf⟩:=pushes_wf (cs1++c::cs2) hwf
 have hfin:pushes (((pushes st cs1).put (1000+b) .dead).push c) cs2=(pushes st (cs1++c::cs2)).put (1000+b) .dead:=by
  have:=hput s2.length
  rwa [htl,← hlen2,List.take_length] at this
 refine ⟨s1++⟨none,.apt 1 bytes b t⟩::s2,r2,some (st.n+s1.length,b),cs1++c::cs2,fun m=>if m≤s1.length then pushes st ((cs1++c::cs2).take m) else (pushes st ((cs1++c::cs2).take m)).put (1000+b) .dead,by simp,hb2',⟨by simp;omega,fun m s hs=>?_,fun m hm=>?_,fun i s hs hse=>?_,fun e' b' he'=>?_,?_,?_⟩,?_⟩
 ·by_cases hm:m<s1.length
  ·rw [List.getElem?_append_left hm] at hs
   exact .inl (hq1 s (List.mem_of_getElem? hs))
  ·rw [List.getElem?_append_right (by omega)] at hs
   by_cases hm2:m=s1.length
   ·subst hm2;exact .inr ⟨b,rfl⟩
   ·rw [show m-s1.length=(m-s1.length-1)+1 by omega,List.getElem?_cons_succ] at hs
    exact .inl (hq2 s (List.mem_of_getElem? hs))
 ·rw [hsegl] at hm
  have hcl:(cs1++c::cs2).length=s1.length+1+s2.length:=by simp;omega
  split
  ·rename_i hm1
   rw [pushes_cont _ hwf,segC_take (by omega)]
   funext k
   exact (segA_neg (fun hh=>by have:=hh.1;simp only [decide_eq_true_eq] at this;omega)).symm
  ·rename_i hm1
   obtain ⟨pw,pn⟩:=pushes_wf ((cs1++c::cs2).take m) hwf
   have hlm:((cs1++c::cs2).take m).length=m:=by simp;omega
   rw [St.cont_put_in pw (.inr ⟨hk1000,by rw [pn,hlm];omega⟩),pushes_cont _ hwf,segC_take (by omega)]
   funext k
   by_cases hk:k=1000+b
   ·subst hk;rw [upd_same,segA_pos ⟨by simp only [decide_eq_true_eq];omega,rfl⟩]
   ·rw [upd_ne _ _ hk,segA_neg fun hh=>hk hh.2]
 ·by_cases hm:i<s1.length
  ·rw [List.getElem?_append_left hm] at hs
   have:=hf1 i s hs
   rw [if_pos (by omega),htl1 i (by omega)]
   rwa [List.getD_eq_getElem?_getD,List.getElem?_append_left (by omega),← List.getD_eq_getElem?_getD]
  ·rw [List.getElem?_append_right (by omega)] at hs
   by_cases hm2:i=s1.length
   ·subst hm2
    simp at hs;subst hs;cases hse
   ·obtain ⟨m2,rfl⟩:∃ m2,i=s1.length+1+m2:=⟨i-s1.length-1,by omega⟩
    rw [show s1.length+1+m2-s1.length=m2+1 by omega,List.getElem?_cons_succ] at hs
    have:=hf2 m2 s hs
    rw [hput m2] at this
    rw [if_neg (by omega),List.getD_eq_getElem?_getD,List.getElem?_append_right (by omega),show s1.length+1+m2-cs1.length=m2+1 by omega,List.getElem?_cons_succ,← List.getD_eq_getElem?_getD]
    exact this
 ·injection he' with he'
  injection he' with he1 he2
  subst he1
  subst he2
  refine ⟨s1.length,1,bytes,t,rfl,by rw [List.getElem?_append_right (Nat.le_refl _)];simp,rfl,?_,fun m' s' hs' hne=>?_⟩
  ·rw [if_pos (Nat.le_refl _),htl1 _ (Nat.le_refl _),List.take_of_length_le (by omega),List.getD_eq_getElem?_getD,List.getElem?_append_right (by omega),hlen1,Nat.sub_self]
   exact hF
  ·have hlt:=(List.getElem?_eq_some_iff.1 hs').1
   rw [hsegl] at hlt
   have hs2:(s1++⟨none,.apt 1 bytes b t⟩::(s2++r2))[m']?=some s':=by
    rw [show s1++(⟨none,.apt 1 bytes b t⟩:SOp)::(s2++r2)=(s1++⟨none,.apt 1 bytes b t⟩::s2)++r2 by simp,List.getElem?_append_left (by rw [hsegl];exact hlt)]
    exact hs'
   obtain ⟨_,q2,q3,q4⟩:=hD' m' s' hs2 hne
   refine ⟨q2,q3,?_⟩
   rcases q4 with q4 | q4 | q4
   ·exact .inl q4
   ·exact .inr (.inl q4)
   by_cases hlm:m'<s1.length
   ·exact .inl hlm
   refine .inr (.inr ?_)
   obtain ⟨m2,rfl⟩:∃ m2,m'=s1.length+1+m2:=⟨m'-s1.length-1,by omega⟩
   have hs3:s2[m2]?=some s':=by
    rw [List.getElem?_append_right (by omega),show s1.length+1+m2-s1.length=m2+1 by omega,List.getElem?_cons_succ] at hs'
    exact hs'
   have hat:=hf2 m2 s' hs3
   rw [List.getD_eq_getElem?_getD,List.getElem?_append_right (by omega),show s1.length+1+m2-cs1.length=m2+1 by omega,List.getElem?_cons_succ,← List.getD_eq_getElem?_getD]
   have hls':l[st.n+(s1.length+1+m2)]?=some s':=by rw [hsl,hs2]
   obtain ⟨o,_,_,_,_,_,hisK,_,_⟩:=hR.op hls'
   obtain ⟨g',k'⟩:=s'
   simp only [SOp.isMv,Bool.and_eq_true] at q4
   obtain ⟨q5,q6⟩:=q4
   cases g' with
   | some _=>cases q5
   | none =>
   have hex:=mv_form q6
   obtain ⟨j,rfl⟩:=hex
   have hj:j<1000:=by
    simp only [isK] at hisK
    split at hisK<;>try (cases hisK;done)
    rename_i x' _
    have hjt:=isX_v hisK
    obtain ⟨t,ht⟩:=hjt
    have:=(List.getElem?_eq_some_iff.1 ht).1;have:=hR.slots.few;omega
   rcases hat with ⟨side,res,h1,_,_,h4⟩ | ⟨h1,_⟩
   ·rw [h4]
    have hwp:(((pushes st cs1).put (1000+b) .dead).push c).wf:=St.wf_push (St.wf_put pw1 _ _) _
    have hcont:(pushes (((pushes st cs1).put (1000+b) .dead).push c) (cs2.take m2)).cont j=(pushes st cs1).cont j:=by
     rw [pushes_cont _ hwp,segC_out (by omega),St.cont_push (St.wf_put pw1 _ _),upd_ne _ _ (by omega),St.cont_put_in pw1 (.inr ⟨hk1000,by omega⟩),upd_ne _ _ (by omega)]
    have hres:res=(opv j ((pushes st cs1).cont j)).core:=by
     rw [← hcont]
     simp only [pev,g1,one,Option.some.injEq,Prod.mk.injEq] at h1
     exact h1.2.symm
    rw [hres]
    exact hlate j hj
   ·cases h1
 ·rw [hsegl]
  rw [if_neg (by omega),htl]
  exact St.wf_put pwf _ _
 ·rw [hsegl]
  rw [if_neg (by omega),htl,St.n_put,pnf]
  simp;omega
 ·rw [hsegl]
  dsimp only
  rw [if_neg (by omega),htl,← hfin]
  exact hv3
theorem draw_any (hR:Rg P nt tr pre ops l kh) {K:St→Prop} (hQ:∀ a w st,K st→st.n=l.length→Fm cx nt tr pre (resDsts ops.toList l) st a w→Q .normal a w) :
  ∀ (N:Nat) (sl:List SOp) (st:St) (fuel:Nat) (T:Array Bool) (a:Act) (w:World),sl.length<N→kh≤st.n→l.drop st.n=sl→st.n≤l.length→Fm cx nt tr pre (resDsts ops.toList l) st a w→vcOps P K sl st →
   Closed ops T→(∀ i,i<ops.size→(T.getD i false=true↔i<st.n))→unl ops T≤fuel→wpAny P .any ops Q fuel T a w
 | 0,sl,st,fuel,T,a,w,hN,_,_,_,_,_,_,_,_=>by omega
 | N+1,sl,st,fuel,T,a,w,hN,hkn,hl,hn,h,hv,hT,hx,hu=>by
  obtain ⟨seg,rest,ap,cs,cst,rfl,hb,hg,hvr⟩:=seg_split hR hl h.wf hv
  have hlen:=hg.len
  have hll:l.length-st.n=seg.length+rest.length:=by have:=congrArg List.length hl;simpa using this
  have hsl:∀ i,l[st.n+i]?=(seg++rest)[i]?:=fun i=>by rw [← hl,List.getElem?_drop]
  have pn:=hg.n
  refine seg_any (cx:=cx) hR hkn h.wf hl hb hg (fun fuel T a w hT hx hu h=>?_) fuel T a w hT (fun i hi=>(hx i (by rw [hR.size];omega)).2 hi) (fun i hi hi'=>?_) hu ?_
  ·rcases hb with rfl | ⟨e,r,rfl,he,hea⟩
   ·have hnone:Region.ready .any ops T=[]:=by
     rw [List.eq_nil_iff_forall_not_mem]
     intro i hi
     obtain ⟨h1,h2,_⟩:=ready_unl hT hi
     rw [(hx i h1).2 (by rw [hR.size] at h1;simp only [List.length_nil] at hll;omega)] at h2
     cases h2
    have hq:=hQ a w _ hvr (by rw [pn];simp only [List.length_nil] at hll;omega) h
    cases fuel with
    | zero=>exact ⟨hnone,hq⟩
    | succ fuel=>exact ⟨fun _=>hq,fun i hi=>by rw [hnone] at hi;cases hi⟩
   ·simp only [List.length_cons] at hll
    have hls:l[st.n+seg.length]?=some e:=by rw [hsl,List.getElem?_append_right (Nat.le_refl _)];simp
    have hpo:st.n+seg.length<ops.size:=by rw [hR.size];omega
    have hpu:T.getD (st.n+seg.length) false=false:=by
     cases ht:T.getD (st.n+seg.length) false with
     | false=>rfl
     | true=>have:=(hx _ hpo).1 ht;omega
    cases fuel with
    | zero=>have:=unl_pos hpo hpu;omega
    | succ fuel =>
     refine ⟨fun hr=>absurd hr (ready_ne hR.edges hT.1 hpo hpu),fun i hi=>?_⟩
     obtain ⟨hio,hiu,hic⟩:=ready_unl hT hi
     obtain ⟨d1,d2⟩:=(hR.dr hls).2.2.1 he hea
     have hie:i=st.n+seg.length:=by
      apply Classical.byContradiction
      intro hne
      by_cases hlt:i<st.n+seg.length
      ·rw [(hx i hio).2 hlt] at hiu;cases hiu
      ·rw [hic _ (d2 i (by omega) (by rw [← hR.size];exact hio))] at hpu;cases hpu
     subst hie
     obtain ⟨o,ho,hd,hlt,hasg,hgd,hk,hreads,hxs⟩:=hR.op hls
     have hpn:(cst seg.length).n=st.n+seg.length:=pn
     rw [← hpn] at hd
     have hr':∀ j,j∈e.k.reads→j<(cst seg.length).n:=fun j hj=>by rw [hpn];exact hreads j hj
     have hnext:∀ a' w',(∃ st',vcOps P K r st'∧Fm cx nt tr pre (resDsts ops.toList l) st' a' w'∧st'.n=(cst seg.length).n+1)→wpAny P .any ops Q fuel (T.setIfInBounds (st.n+seg.length) true) a' w':=by
      rintro a' w' ⟨st',k1,k2,k3⟩
      rw [hpn] at k3
      refine draw_any hR hQ N r st' fuel _ a' w' (by simp only [List.length_append,List.length_cons] at hN;omega) (by omega) ?_ (by omega) k2 k1 (closed_set hT hio hic) (fun i hi=>?_) ?_
      ·rw [k3,show st.n+seg.length+1=st.n+(seg.length+1) by omega,← List.drop_drop,hl,List.drop_append]
       simp
      ·by_cases hij:st.n+seg.length=i
       ·subst hij
        rw [getD_set_self (by rw [hT.1];exact hi)]
        simp;omega
       ·rw [setT_ne hij,hx i hi]
        omega
      ·have:=unl_set hT.1 hio hiu;omega
     unfold wpOp
     rw [ho]
     simp only
     obtain ⟨g0,k⟩:=e
     cases hog:o.guard with
     | none =>
      cases g0 with
      | some _=>rw [hog] at hgd;cases hgd
      | none =>
       have hw:Region.wanted o (yielded ops a.tmps)=true:=by simp [Region.wanted,hog]
       rw [if_pos hw]
       exact .inl (Oper.wp_mono hnext (op_step hR.slots h (g:=none) (by simp) hk hd hasg hlt hr' hxs hvr))
     | some gg =>
      obtain ⟨j,want⟩:=gg
      cases g0 with
      | none=>rw [hog] at hgd;cases hgd
      | some g1 =>
       obtain ⟨i',want'⟩:=g1
       rw [hog] at hgd
       simp only [Bool.and_eq_true,beq_iff_eq,decide_eq_true_eq] at hgd
       obtain ⟨⟨⟨rfl,rfl⟩,hjn⟩,hj2⟩:=hgd
       have hjd:∃ t,(resDsts ops.toList l)[j]?=some (some t):=by
        split at hj2
        ·exact ⟨_,by assumption⟩
        ·cases hj2
       obtain ⟨t,hjd⟩:=hjd
       have hna:k.asgTo=none:=by
        cases hka:k.asgTo with
        | none=>rfl
        | some j' =>
         obtain ⟨o',_,_,h3,_⟩:=fitOps_get hR.fit hls
         have:=(h3 j' hka).2.2
         cases this
       simp only [vcOps,guardVC] at hvr
       split at hvr
       ·rename_i b hgb
        have hwb:Region.wanted o (yielded ops a.tmps)=b:=by
         simp only [Region.wanted,hog]
         exact gd_yields h (by rw [hpn];exact hjn) hjd (by have:=resDsts_dst hjd;simpa using this) hgb
        cases b with
        | true =>
         rw [if_pos hwb]
         exact .inl (Oper.wp_mono hnext (op_step hR.slots h (g:=some true) (by simp) hk hd hasg hlt hr' hxs hvr))
        | false =>
         rw [if_neg (by rw [hwb];simp)]
         exact hnext _ _ (skip_step hR.slots h hd hna hlt hvr)
       ·exact hvr.elim
  ·cases ht:T.getD i false with
   | false=>rfl
   | true=>have:=(hx i hi').1 ht;omega
  ·obtain ⟨⟨vl,fp,G,e1,e2,e3,egh⟩,e4,e5,e6,e7⟩:=h
   have hio:∀ i,T.getD i false=true→i<ops.size:=fun i hi=>by
    apply Classical.byContradiction
    intro hn
    simp [Array.getD,show ¬ i<T.size by rw [hT.1];exact hn] at hi
   have hsame:segA ap st.cont st.n cs (fun i=>T.getD i false)=st.cont:=by
    funext k
    rw [segA_eq fun e b he hTe=>by
     have h1:=(hx e (hio e hTe)).1 hTe
     have:=(hg.apr e b he).1
     omega]
    unfold segC
    by_cases hr : 1000+st.n≤k∧k<1000+st.n+cs.length
    ·rw [if_pos hr]
     have hk:T.getD (k-1000) false=false:=by
      cases ht:T.getD (k-1000) false with
      | false=>rfl
      | true=>have:=(hx (k-1000) (hio _ ht)).1 ht;omega
     dsimp only
     rw [hk,St.cont_out (by simp only [St.in,not_or,not_and];omega)]
     rfl
    ·rw [if_neg hr]
   rw [hsame]
   refine ⟨⟨vl,fp,G,e1,e2,fun i t hi hit=>e3 i t ?_ hit,egh⟩,e5,e6,e7⟩
   have hio:i<ops.size:=by
    apply Classical.byContradiction
    intro hn
    simp [Array.getD,show ¬ i<T.size by rw [hT.1];exact hn] at hi
   exact (hx i hio).1 hi
end
end Go.D3
