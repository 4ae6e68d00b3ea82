/- THE PURE OPERATIONS TOGETHER. Generic. -/
import Derived.Test.YtgieggnpnepkfaaGreatDoorMapo
namespace Go.D3
open Go
section
variable {P:Program} {o:Oper} {w:World} {A:Nat→Prop} {ct:Nat→D} {vl:Nat→Value} {a:Act} {ds:List (Option Nat)} {tr:List Nat} {rd:X→D} {ob:Nat→D}
theorem own_no {v:Value} {y:D} {F:Nat→Prop} (h:Own w A v y F):(∀ z l,y≠.row z l)∧∀ z,y≠.nils z:=by
 cases h<;>exact ⟨by simp,by simp⟩
theorem pl_no {v:Value} {z:D} {l:List D} (h:Pl w A (RefOk w ct vl) v (.row z l)):False:=by
 cases h with
 | rd h=>cases h
 | ref h=>exact h.elim
theorem pev_sound {k:Kp} {side:Prop} {res:D} (hp:pev k rd ob=some (side,res)) (hk:isK P ds tr o k=true)
  (hx:∀ y,y∈k.xs→∀ x,isX ds tr x y=true→PlG w A (RefOk w ct vl) (a.eval x) (rd y))
  (hob:∀ j,(ct j).isObj=true→ob j=ct j) (hok:∀ j,∃ F,ContOk w A (RefOk w ct vl) (vl j) F (ct j)) (hs:side):∃ v,Yd P o a w v∧Pl w A (RefOk w ct vl) v res:=by
 cases k<;>try (simp [pev] at hp;done)
 case mv y =>
  simp only [isK] at hk
  split at hk<;>try (cases hk;done)
  rename_i x' hop
  have hp:g1 (rd y) (one (rd y).core)=some (side,res):=hp
  obtain ⟨s,h1,rfl⟩:=g1_some hp
  simp only [one,Option.some.injEq,Prod.mk.injEq] at h1
  obtain ⟨_,rfl⟩:=h1
  exact ⟨_,yd_move (opMove_s hop),(hx y (by simp [Kp.xs]) x' hk).1 hs.1⟩
 case pick c x y =>
  simp only [isK] at hk
  split at hk<;>try (cases hk;done)
  rename_i c' a' b' hop
  have ho:=opPick_s hop
  simp only [Bool.and_eq_true] at hk
  have hc:=hx c (by simp [Kp.xs]) c' hk.1.1
  have hx':=hx x (by simp [Kp.xs]) a' hk.1.2
  have hy':=hx y (by simp [Kp.xs]) b' hk.2
  simp only [pev] at hp
  generalize hcc:(rd c).core=cc at hp
  generalize hxx:(rd x).core=xx at hp
  generalize hyy:(rd y).core=yy at hp
  unfold pickR at hp
  split at hp
  ·rename_i cb p q
   simp only [Option.some.injEq,Prod.mk.injEq] at hp
   obtain ⟨rfl,rfl⟩:=hp
   obtain ⟨h1,h2,h3⟩:=hs
   have hc:=hc.1 h1
   rw [hcc] at hc
   refine ⟨_,yd_pick (cb:=cb) (p:=p) (q:=q) ho (pl_bool hc) (fun hb=>?_) (fun hb=>?_),.rd .bool⟩
   ·have:=hx'.1 (h2 hb);rw [hxx] at this;exact pl_bool this
   ·have:=hy'.1 (h3 hb);rw [hyy] at this;exact pl_bool this
  ·cases hp
 case bin op x y =>
  simp only [isK] at hk
  split at hk<;>try (cases hk;done)
  rename_i op' t x' y' hop
  obtain ⟨u,ho⟩:=opBin_s hop
  simp only [Bool.and_eq_true,decide_eq_true_eq] at hk
  obtain ⟨⟨rfl,hk1⟩,hk2⟩:=hk
  obtain ⟨s,h1,rfl⟩:=g2_some hp
  obtain ⟨⟨g1,g2⟩,hs⟩:=hs
  have hx':=(hx x (by simp [Kp.xs]) x' hk1).1 g1
  have hy':=(hx y (by simp [Kp.xs]) y' hk2).1 g2
  generalize (rd x).core=xx at h1 hx'
  generalize (rd y).core=yy at h1 hy'
  unfold binR at h1
  split at h1
  ·split at h1
   ·rename_i hkk
    subst hkk
    obtain ⟨e1,e2⟩:=pl_int hx'
    obtain ⟨e3,e4⟩:=pl_int hy'
    obtain ⟨v,hv,hrun⟩:=intBin_has (w:=w) (P:=P) (o:=o) (a:=a) e2 h1 hs
    exact ⟨v,hrun ho e1 e3,.rd (hv.mono (fun _ h=>h.elim) fun _ h=>h.elim)⟩
   ·cases h1
  ·obtain ⟨v,hv,hrun⟩:=strBin_has (w:=w) (P:=P) (o:=o) (a:=a) h1 hs
   exact ⟨v,hrun ho (pl_str hx').1 (pl_str hy').1,.rd (hv.mono (fun _ h=>h.elim) fun _ h=>h.elim)⟩
  ·cases h1
 case binB op x y =>
  simp only [isK] at hk
  split at hk<;>try (cases hk;done)
  rename_i op' t x' y' hop
  obtain ⟨u,ho⟩:=opBin_s hop
  simp only [Bool.and_eq_true,decide_eq_true_eq] at hk
  obtain ⟨⟨⟨rfl,hk1⟩,hk2⟩,hk3⟩:=hk
  obtain ⟨s,h1,rfl⟩:=g2_some hp
  obtain ⟨⟨g1,g2⟩,hs⟩:=hs
  have hx':=(hx x (by simp [Kp.xs]) x' hk1).1 g1
  have hy':=(hx y (by simp [Kp.xs]) y' hk2).1 g2
  generalize (rd x).core=xx at h1 hx'
  generalize (rd y).core=yy at h1 hy'
  unfold binBR at h1
  split at h1
  ·obtain ⟨v,hv,hrun⟩:=boolBin_has (w:=w) (P:=P) (o:=o) (a:=a) h1
   split at hk3
   ·rename_i hu
    exact ⟨v,hrun ho (pl_bool hx') (pl_bool hy') hu,.rd (hv.mono (fun _ h=>h.elim) fun _ h=>h.elim)⟩
   ·cases hk3
  ·cases h1
 case not x =>
  simp only [isK] at hk
  split at hk<;>try (cases hk;done)
  rename_i x' hop
  obtain ⟨u,ho⟩:=opNot_s hop
  obtain ⟨s,h1,rfl⟩:=g1_some hp
  have hx':=(hx x (by simp [Kp.xs]) x' hk).1 hs.1
  generalize (rd x).core=xx at h1 hx'
  unfold notR at h1
  split at h1
  ·simp only [one,Option.some.injEq,Prod.mk.injEq] at h1
   obtain ⟨_,rfl⟩:=h1
   exact ⟨_,yd_not ho (pl_bool hx'),.rd .bool⟩
  ·cases h1
 case conv k x =>
  simp only [isK] at hk
  split at hk<;>try (cases hk;done)
  rename_i t1 t2 x' hop
  have ho:=opConv_s hop
  simp only [Bool.and_eq_true] at hk
  obtain ⟨hk1,hk2⟩:=hk
  obtain ⟨s,h1,rfl⟩:=g1_some hp
  have hx':=(hx x (by simp [Kp.xs]) x' hk1).1 hs.1
  generalize (rd x).core=xx at h1 hx'
  split at hk2
  ·rename_i hu1 hu2
   simp at hk2
   subst hk2
   unfold convR at h1
   split at h1
   ·simp only [one,Option.some.injEq,Prod.mk.injEq] at h1
    obtain ⟨_,rfl⟩:=h1
    obtain ⟨e1,e2⟩:=pl_int hx'
    obtain ⟨h3,h4⟩:=yd_conv (P:=P) (w:=w) ho hu1 hu2 e1 e2
    exact ⟨_,h3,.rd (.int h4)⟩
   ·cases h1
  ·cases hk2
 case len x =>
  simp only [isK] at hk
  split at hk<;>try (cases hk;done)
  rename_i x' t hop
  have ho:=opBuiltin_s hop
  simp only [Bool.and_eq_true] at hk
  obtain ⟨s,h1,rfl⟩:=g1_some hp
  obtain ⟨n,q,c,rfl,h2,h3⟩:=len_run hob hok ((hx x (by simp [Kp.xs]) x' hk.1).1 hs.1) h1
  cases he:sliceT P t with
  | none=>rw [he] at hk;simp at hk
  | some e=>exact ⟨_,yd_lenSlice ho (sliceT_under he) h2,.rd (.int (has_len h3))⟩
 case lenS x =>
  simp only [isK] at hk
  split at hk<;>try (cases hk;done)
  rename_i x' t hop
  have ho:=opBuiltin_s hop
  simp only [Bool.and_eq_true] at hk
  obtain ⟨hk1,hk2⟩:=hk
  obtain ⟨s,h1,rfl⟩:=g1_some hp
  have hx':=(hx x (by simp [Kp.xs]) x' hk1).1 hs.1
  generalize (rd x).core=xx at h1 hx'
  split at hk2
  ·rename_i hu
   unfold lenSR at h1
   split at h1
   ·simp only [one,Option.some.injEq,Prod.mk.injEq] at h1
    obtain ⟨_,rfl⟩:=h1
    obtain ⟨h2,h3⟩:=pl_str hx'
    exact ⟨_,yd_lenStr ho hu h2,.rd (.int (has_len h3))⟩
   ·cases h1
  ·cases hk2
 case mlk ok kk z m k =>
  simp only [isK] at hk
  split at hk<;>try (cases hk;done)
  rename_i t m' k' ok' hop
  have ho:=opLookup_s hop
  simp only [Bool.and_eq_true,beq_iff_eq] at hk
  obtain ⟨⟨⟨hk1,hk2⟩,rfl⟩,hk3⟩:=hk
  split at hk3<;>try (cases hk3;done)
  rename_i kt et hmt
  simp only [Bool.and_eq_true] at hk3
  obtain ⟨hkt,hz⟩:=hk3
  obtain ⟨s,h1,rfl⟩:=g2_some hp
  have hm':=(hx m (by simp [Kp.xs]) m' hk1).1 hs.1.1
  have hk':=(hx k (by simp [Kp.xs]) k' hk2).1 hs.1.2
  unfold mlkR at h1
  rw [Option.bind_eq_some_iff] at h1
  obtain ⟨e,he,h1⟩:=h1
  rw [Option.bind_eq_some_iff] at h1
  obtain ⟨r,hr,h1⟩:=h1
  simp only [Option.some.injEq,Prod.mk.injEq] at h1
  obtain ⟨hs1,rfl⟩:=h1
  have hkey:(rd k).core.keyS kk=true:=by rw [hs1];exact hs.2
  obtain ⟨d,hu,hd⟩:=kind_of hkt hkey
  have hsc:Sc (a.eval k') (rd k).core:=by
   have hsl:=keyS_scal hkey
   refine sc_of_scal (w:=w) (A:=A) (pl_rd hk' ?_ ?_ ?_ ?_ ?_ ?_) hsl<;>intros<;>intro hh<;>rw [hh] at hsl<;>cases hsl
  obtain ⟨i,zv,hi,hiz,hzz⟩:=zeroV_s hz
  obtain ⟨u,h2,h3⟩:=lookup_run ok (mapT_s hmt) hu hd hsc (map_view hob hok hm' he) hr hi hiz hzz
  refine ⟨if ok then .tuple #[u,.bool r.isSome] else u,by simp only [Yd,execOp,ho,Sem.run_bind,h2,Result.andThen_ok,Sem.run_pure],?_⟩
  cases ok
  ·exact .rd h3.rd
  ·refine .rd (.tup rfl fun j x hj=>?_)
   match j,hj with
   | 0,hj=>simp at hj;subst hj;exact h3.rd
   | 1,hj=>simp at hj;subst hj;exact .bool
   | j+2,hj=>simp at hj
 case lenM x =>
  simp only [isK] at hk
  split at hk<;>try (cases hk;done)
  rename_i x' t hop
  have ho:=opBuiltin_s hop
  simp only [Bool.and_eq_true] at hk
  obtain ⟨s,h1,rfl⟩:=g1_some hp
  unfold lenMR at h1
  rw [Option.bind_eq_some_iff] at h1
  obtain ⟨e,he,h1⟩:=h1
  simp only [Option.some.injEq,Prod.mk.injEq] at h1
  obtain ⟨_,rfl⟩:=h1
  cases hmt:mapT P t with
  | none=>rw [hmt] at hk;simp at hk
  | some q =>
   obtain ⟨kt,et⟩:=q
   rcases map_view hob hok ((hx x (by simp [Kp.xs]) x' hk.1).1 hs.1) he with ⟨h2,rfl⟩ | ⟨r,es,clock,h2,hb,hE⟩
   ·refine ⟨.int .i64 0,?_,.rd (.int (has_len (n:=0) (Nat.zero_le _)))⟩
    simp [Yd,execOp,ho,h2,resolve,invoke,builtin,Builtin.len_,run_underlying (mapT_s hmt),goInt]
   ·refine ⟨.int .i64 e.1.length,?_,.rd (.int (has_len hE.1.2.2))⟩
    have:=hE.1.1
    simp [Yd,execOp,ho,h2,resolve,invoke,builtin,Builtin.len_,run_underlying (mapT_s hmt),MapKept.run_getObj_map hb,goInt,this]
 case cvS x =>
  simp only [isK] at hk
  split at hk<;>try (cases hk;done)
  rename_i s0 d0 x' hop
  have ho:=opConv_s hop
  simp only [Bool.and_eq_true] at hk
  obtain ⟨hk1,hk2⟩:=hk
  split at hk2<;>try (cases hk2;done)
  rename_i e hu1 hu2
  split at hk2<;>try (cases hk2;done)
  rename_i hu3
  obtain ⟨s,h1,rfl⟩:=g1_some hp
  obtain ⟨l,rfl,hl,h2⟩:=cvs_run hob hok ((hx x (by simp [Kp.xs]) x' hk1).1 hs.1) h1 hu1 hu3 hu2
  exact ⟨_,by simp only [Yd,execOp,ho,Sem.run_bind,h2,Result.andThen_ok,Sem.run_pure],.rd (.str hl)⟩
 case nilI neg x =>
  simp only [isK] at hk
  split at hk<;>try (cases hk;done)
  rename_i op' t x' hop
  obtain ⟨u,ho⟩:=opBin_s hop
  simp only [Bool.and_eq_true,decide_eq_true_eq] at hk
  obtain ⟨⟨rfl,hk1⟩,hk2⟩:=hk
  split at hk2<;>try (cases hk2;done)
  rename_i ms hu
  obtain ⟨s,h1,rfl⟩:=g1_some hp
  have hx':=(hx x (by simp [Kp.xs]) x' hk1).1 hs.1
  obtain ⟨b,hb,hrun⟩:=nilI_run (P:=P) (w:=w) (t:=t) hx' h1 hu ho rfl
  exact ⟨.bool b,hrun,by rw [hb];exact .rd .bool⟩
 case idxA sz x i =>
  simp only [isK] at hk
  split at hk<;>try (cases hk;done)
  rename_i t x' i' hop
  have ho:=opIdxA_s hop
  simp only [Bool.and_eq_true,decide_eq_true_eq] at hk
  obtain ⟨⟨⟨hk1,hk2⟩,hk3⟩,hk4⟩:=hk
  split at hk4
  ·rename_i e he
   obtain ⟨inf,hi1,hi2⟩:=sizeT_info hk4
   obtain ⟨s,h1,rfl⟩:=g2_some hp
   obtain ⟨⟨g1,g2⟩,hs⟩:=hs
   have hx':=(hx x (by simp [Kp.xs]) x' hk1).1 g1
   have hi':=(hx i (by simp [Kp.xs]) i' hk2).1 g2
   generalize (rd x).core=xx at h1 hx'
   generalize (rd i).core=ii at h1 hi'
   unfold idxAR at h1
   split at h1
   ·rename_i ki n
    obtain ⟨hn,_⟩:=pl_int hi'
    split at h1
    ·rename_i k p
     have hr:=pl_sub hx'
     rw [lk_sub hob hr,Option.bind_some] at h1
     obtain ⟨F,hF⟩:=hok k
     rcases sub_ok hF hr with ⟨z,l,hc,_,_⟩ | ⟨F',hown,_,hreach,hnr⟩
     ·rw [hc] at h1;cases h1
     ·have h1':((ct k).dat p).len?.bind (fun m=>some ((0≤n∧n<(m:Int)∧(((ct k).dat p).elt n.toNat).length=sz),D.adr k (p++[(n.toNat,0)])))=some (s,res):=by
       revert h1
       cases hc:ct k<;>first | exact id | exact absurd hc (hnr _ _)
      rw [Option.bind_eq_some_iff] at h1'
      obtain ⟨m,hm,h1'⟩:=h1'
      simp only [Option.some.injEq,Prod.mk.injEq] at h1'
      obtain ⟨h2,rfl⟩:=h1'
      rw [← h2] at hs
      obtain ⟨h3,h4,h5⟩:=hs
      generalize hy:(ct k).dat p=y at hown hm h5 hreach
      cases y<;>simp [D.len?] at hm<;>first | exact absurd rfl ((own_no hown).1 _ _) | exact absurd rfl ((own_no hown).2 _) | skip
      rename_i z L
      subst hm
      have hlt:n.toNat<L.length:=by omega
      have hL:L.getD n.toNat z=L[n.toNat]:=by rw [List.getD_eq_getElem?_getD,List.getElem?_eq_getElem hlt];rfl
      have hun:=hown.un.1
      have hvc:∃ b off c,a.eval x'=.slice (some ⟨b,off,none⟩) L.length c∧z.cells.length=sz:=by
       have hsz:=hown.sizes z L (.inl rfl) L[n.toNat] (List.getElem_mem hlt)
       obtain ⟨q,cap,e1,_,_,e4⟩:=own_slice hown
       obtain ⟨b,off,rfl⟩:=e4 (by rintro rfl;simp at hlt)
       refine ⟨b,off,cap,e1,?_⟩
       rw [← hsz,← h5]
       simp only [D.elt,hL]
      obtain ⟨b,off,c,e1,e2⟩:=hvc
      have hkid:(D.slice z L).has [(n.toNat,0)]:=⟨⟨hlt,by omega⟩,trivial⟩
      obtain ⟨r1,_,r3⟩:=hreach _ hkid
      refine ⟨_,yd_idxA ho (sliceT_under he) hi1 hi2 e1 hn h3 (by exact_mod_cast h4),.ref ⟨r1,_,(r3 (by simp)).trans ?_,rfl⟩⟩
      rw [e1]
      simp only [adrAt,kidA,D.un,kidAT,e2,Nat.add_zero]
    ·rename_i hns
     rw [Option.bind_eq_some_iff] at h1
     obtain ⟨m,hm,h1⟩:=h1
     simp only [Option.some.injEq,Prod.mk.injEq] at h1
     obtain ⟨h2,rfl⟩:=h1
     rw [← h2] at hs
     obtain ⟨h3,h4,h5⟩:=hs
     cases xx<;>simp [D.len?] at hm
     ·rename_i z L
      subst hm
      have hlt:n.toNat<L.length:=by omega
      have hL:L.getD n.toNat z=L[n.toNat]:=by rw [List.getD_eq_getElem?_getD,List.getElem?_eq_getElem hlt];rfl
      have hrd:=pl_slice hx'
      obtain ⟨_,_,_,_,_,hh⟩:=rd_slice hrd
      obtain ⟨_,_,_,_,_,hsz,_⟩:=hh (by rintro rfl;simp at hlt)
      obtain ⟨b,off,c,e1,e2,e3⟩:=rd_elt hrd hlt
      have e4:z.cells.length=sz:=by
       rw [← hsz _ (List.getElem_mem hlt),← h5]
       simp only [D.elt,hL]
      rw [e4] at e2
      exact ⟨_,yd_idxA ho (sliceT_under he) hi1 hi2 e1 hn h3 (by exact_mod_cast h4),.rd e2⟩
     ·exact (pl_no hx').elim
     ·subst hm;omega
   ·cases h1
  ·cases hk4
 case ld x =>
  simp only [isK] at hk
  split at hk<;>try (cases hk;done)
  rename_i t x' hop
  have ho:=opLoad_s hop
  simp only [Bool.and_eq_true] at hk
  obtain ⟨s,h1,rfl⟩:=g1_some hp
  obtain ⟨b,off,u,h2,h3,h4⟩:=ld_run hob hok ((hx x (by simp [Kp.xs]) x' hk.1).1 hs.1) h1
  exact ⟨u,yd_ld ho hk.2 h2 h3,h4⟩
 case lda n x =>
  simp only [isK] at hk
  split at hk<;>try (cases hk;done)
  rename_i t x' hop
  have ho:=opLoad_s hop
  simp only [Bool.and_eq_true] at hk
  obtain ⟨s,h1,rfl⟩:=g1_some hp
  obtain ⟨b,off,cs,h2,h3,h4,h5⟩:=lda_run hob hok ((hx x (by simp [Kp.xs]) x' hk.1.1).1 hs.1) h1 hs.2
  exact ⟨_,yd_lda ho hk.1.2 hk.2 h2 h3 h4,h5⟩
 case fA off x =>
  simp only [isK] at hk
  split at hk<;>try (cases hk;done)
  rename_i t x' f hop
  have ho:=opFA_s hop
  simp only [Bool.and_eq_true] at hk
  obtain ⟨hk1,hk2⟩:=hk
  split at hk2
  ·rename_i p0 ft hf
   simp only [Bool.and_eq_true,decide_eq_true_eq,Bool.not_eq_true'] at hk2
   obtain ⟨⟨rfl,h2⟩,h3⟩:=hk2
   obtain ⟨s,h1,rfl⟩:=g1_some hp
   have hx':=(hx x (by simp [Kp.xs]) x' hk1).1 hs.1
   generalize (rd x).core=xx at h1 hx'
   unfold fAR at h1
   split at h1
   ·rename_i l
    simp only [one,Option.some.injEq,Prod.mk.injEq] at h1
    obtain ⟨_,rfl⟩:=h1
    have hrd:Rd w A (a.eval x') (.ptr l):=pl_rd hx' (by simp) (by simp) (by simp) (by simp) (by simp)
    generalize hv:a.eval x'=v at hrd
    cases hrd with
    | @ptr b o' _ hA vs hcells hr =>
     refine ⟨_,yd_fA ho hf h2 h3 hv,.rd (.ptr hA (fun j=>vs (p0+j)) (fun j x hj=>?_) (fun j x hj=>?_))⟩
     ·rw [List.getElem?_drop] at hj
      have:=hcells _ _ hj
      rwa [← Nat.add_assoc] at this
     ·rw [List.getElem?_drop] at hj
      exact hr _ _ hj
   ·rename_i k p
    have hr:=pl_adr hx'
    rw [lk_adr hob hr,Option.bind_some] at h1
    simp only [Option.some.injEq,Prod.mk.injEq] at h1
    obtain ⟨e1,rfl⟩:=h1
    obtain ⟨b,o',e2,e3,e4⟩:=adr_none hok hr
    exact ⟨_,yd_fA ho hf h2 h3 e2,.ref ⟨by rw [e1];exact hs.2,_,adrAt_bump p e4,rfl⟩⟩
   ·cases h1
  ·cases hk2
 case fld off x =>
  simp only [isK] at hk
  split at hk<;>try (cases hk;done)
  rename_i t x' f hop
  have ho:=opFld_s hop
  simp only [Bool.and_eq_true] at hk
  obtain ⟨hk1,hk2⟩:=hk
  split at hk2
  ·rename_i p0 ft hf
   simp only [Bool.and_eq_true,decide_eq_true_eq] at hk2
   obtain ⟨rfl,h2⟩:=hk2
   obtain ⟨s,h1,rfl⟩:=g1_some hp
   have hx':=(hx x (by simp [Kp.xs]) x' hk1).1 hs.1
   generalize (rd x).core=xx at h1 hx'
   unfold fldR at h1
   split at h1
   ·rename_i l
    simp only [Option.some.injEq,Prod.mk.injEq] at h1
    obtain ⟨e1,rfl⟩:=h1
    have hs2:=hs.2
    rw [← e1] at hs2
    obtain ⟨cs,e2,e3,e4⟩:=pl_agg hx'
    refine ⟨_,yd_fld ho hf h2 e2 (by omega),e4 p0 _ ?_⟩
    rw [List.getD_eq_getElem?_getD,List.getElem?_eq_getElem hs2];rfl
   ·cases h1
  ·cases hk2
 case flda off n x =>
  simp only [isK] at hk
  split at hk<;>try (cases hk;done)
  rename_i t x' f hop
  have ho:=opFld_s hop
  simp only [Bool.and_eq_true] at hk
  obtain ⟨hk1,hk2⟩:=hk
  split at hk2
  ·rename_i p0 ft hf
   simp only [Bool.and_eq_true,decide_eq_true_eq] at hk2
   obtain ⟨⟨rfl,h2⟩,h3⟩:=hk2
   obtain ⟨s,h1,rfl⟩:=g1_some hp
   have hx':=(hx x (by simp [Kp.xs]) x' hk1).1 hs.1
   generalize (rd x).core=xx at h1 hx'
   unfold fldaR at h1
   split at h1
   ·rename_i l
    simp only [Option.some.injEq,Prod.mk.injEq] at h1
    obtain ⟨e1,rfl⟩:=h1
    have hs2:=hs.2
    rw [← e1] at hs2
    obtain ⟨cs,e2,e3,e4⟩:=pl_agg hx'
    refine ⟨_,yd_flda ho hf h2 h3 e2,.agg (by simp;omega) fun j x hj=>?_⟩
    rw [List.getElem?_take] at hj
    split at hj
    ·rename_i hjn
     rw [List.getElem?_drop] at hj
     have:=e4 _ _ hj
     have e5:(cs.extract p0 (p0+n)).getD j undef=cs.getD (p0+j) undef:=by
      have h6:p0+j<cs.size:=by have:=(List.getElem?_eq_some_iff.1 hj).1;omega
      have h7:j<(cs.extract p0 (p0+n)).size:=by simp;omega
      rw [Array.getD_eq_getD_getElem?,Array.getD_eq_getD_getElem?,Array.getElem?_eq_getElem h7,Array.getElem?_eq_getElem h6,Array.getElem_extract]
     rw [e5];exact this
    ·cases hj
   ·cases h1
  ·cases hk2
 case bld zs parts =>
  simp only [isK] at hk
  split at hk<;>try (cases hk;done)
  rename_i t ps hop
  have ho:=opBld_s hop
  simp only [Bool.and_eq_true] at hk
  obtain ⟨⟨hk1,hk2⟩,hk3⟩:=hk
  simp only [pev,Option.bind_eq_some_iff] at hp
  obtain ⟨⟨g,l⟩,hf,hp⟩:=hp
  simp only [Option.some.injEq,Prod.mk.injEq] at hp
  obtain ⟨rfl,rfl⟩:=hp
  refine yd_bld ho hk1 hk2 ?_ hx hf hs
  unfold fieldsOk at hk3
  split at hk3
  ·rename_i fs hu
   exact ⟨fs,hu,fun f hf=>by simpa using List.all_eq_true.1 hk3 f hf⟩
  ·cases hk3
 case idxS x i =>
  simp only [isK] at hk
  split at hk<;>try (cases hk;done)
  rename_i t x' i' hop
  have ho:=opIndex_s hop
  simp only [Bool.and_eq_true] at hk
  obtain ⟨⟨hk1,hk2⟩,hk3⟩:=hk
  split at hk3
  ·rename_i hu
   obtain ⟨s,h1,rfl⟩:=g2_some hp
   obtain ⟨⟨g1,g2⟩,hs⟩:=hs
   have hx':=(hx x (by simp [Kp.xs]) x' hk1).1 g1
   have hi':=(hx i (by simp [Kp.xs]) i' hk2).1 g2
   generalize (rd x).core=xx at h1 hx'
   generalize (rd i).core=ii at h1 hi'
   unfold idxSR at h1
   split at h1
   ·simp only [Option.some.injEq,Prod.mk.injEq] at h1
    obtain ⟨e1,rfl⟩:=h1
    rw [← e1] at hs
    obtain ⟨h3,h4⟩:=yd_idxS (P:=P) (w:=w) ho hu (pl_str hx').1 (pl_int hi').1 hs.1 hs.2
    exact ⟨_,h3,.rd (.int h4)⟩
   ·cases h1
  ·cases hk3
 case ext i x =>
  simp only [isK] at hk
  split at hk<;>try (cases hk;done)
  rename_i x' i' hop
  have ho:=opExt_s hop
  simp only [Bool.and_eq_true,beq_iff_eq] at hk
  obtain ⟨hk1,rfl⟩:=hk
  obtain ⟨s,h1,rfl⟩:=g1_some hp
  have hx':=(hx x (by simp [Kp.xs]) x' hk1).1 hs.1
  generalize (rd x).core=xx at h1 hx'
  unfold extR at h1
  split at h1
  ·rename_i l
   simp only [Option.some.injEq,Prod.mk.injEq] at h1
   obtain ⟨e1,rfl⟩:=h1
   have hs2:=hs.2
   rw [← e1] at hs2
   obtain ⟨cs,e2,e3,e4⟩:=pl_tup hx'
   refine ⟨_,yd_ext ho e2 (by omega),e4 i _ ?_⟩
   rw [List.getD_eq_getElem?_getD,List.getElem?_eq_getElem hs2];rfl
  ·cases h1
 case nck x =>
  simp only [isK] at hk
  split at hk<;>try (cases hk;done)
  rename_i x' hop
  have ho:=opNck_s hop
  obtain ⟨s,h1,rfl⟩:=g1_some hp
  have hx':=(hx x (by simp [Kp.xs]) x' hk).1 hs.1
  generalize (rd x).core=xx at h1 hx'
  unfold nckR at h1
  split at h1
  all_goals try (cases h1;done)
  all_goals
   simp only [one,Option.some.injEq,Prod.mk.injEq] at h1
   obtain ⟨_,rfl⟩:=h1
  ·obtain ⟨b,off,e1,_⟩:=pl_ptr hx'
   exact ⟨_,yd_nckP ho e1,by rw [← e1];exact hx'⟩
  ·obtain ⟨b,off,e1,_⟩:=adr_none hok (pl_adr hx')
   exact ⟨_,yd_nckP ho e1,by rw [← e1];exact hx'⟩
  ·obtain ⟨cs,e1,_⟩:=pl_fn hx'
   exact ⟨_,yd_nckF ho e1,by rw [← e1];exact hx'⟩
 case eqs neg ks x y =>
  simp only [isK] at hk
  split at hk<;>try (cases hk;done)
  rename_i op' t x' y' hop
  obtain ⟨u,ho⟩:=opBin_s hop
  simp only [Bool.and_eq_true,decide_eq_true_eq,Bool.not_eq_true'] at hk
  obtain ⟨⟨⟨⟨rfl,hk1⟩,hk2⟩,hk3⟩,hk4⟩:=hk
  split at hk3
  ·rename_i fs hu
   simp only [Bool.and_eq_true,Bool.not_eq_true'] at hk3
   obtain ⟨s,h1,rfl⟩:=g2_some hp
   obtain ⟨⟨g1,g2⟩,hs⟩:=hs
   have hx':=(hx x (by simp [Kp.xs]) x' hk1).1 g1
   have hy':=(hx y (by simp [Kp.xs]) y' hk2).1 g2
   generalize (rd x).core=xx at h1 hx'
   generalize (rd y).core=yy at h1 hy'
   unfold eqsR at h1
   split at h1
   ·rw [Option.bind_eq_some_iff] at h1
    obtain ⟨b,hb,h1⟩:=h1
    simp only [Option.some.injEq,Prod.mk.injEq] at h1
    obtain ⟨_,rfl⟩:=h1
    exact ⟨_,yd_eqs ho hu hk3.1 hk3.2 hk4 hx' hy' hb,.rd .bool⟩
   ·cases h1
  ·cases hk3
 case slS x lo hi =>
  simp only [isK] at hk
  split at hk<;>try (cases hk;done)
  rename_i t x' lo' hi' hop
  have ho:=opSlice_s hop
  simp only [Bool.and_eq_true] at hk
  obtain ⟨⟨⟨hk1,hk2⟩,hk3⟩,hk4⟩:=hk
  simp only [pev,slSR,Option.bind_eq_some_iff] at hp
  obtain ⟨s,hs1,⟨g1,l⟩,hlo,⟨g2,h⟩,hhi,hp⟩:=hp
  simp only [Option.some.injEq,Prod.mk.injEq] at hp
  obtain ⟨rfl,rfl⟩:=hp
  obtain ⟨⟨g0,hg1,hg2⟩,h0,h1,h2⟩:=hs
  have hx':=(hx x (by simp [Kp.xs]) x' hk1).1 g0
  cases hc:(rd x).core<;>rw [hc] at hs1 hx'<;>simp [D.str?] at hs1
  subst hs1
  split at hk4
  ·rename_i hu
   obtain ⟨e1,e2⟩:=pl_str hx'
   refine ⟨_,yd_slStr ho hu e1 h0 h1 h2 (bnd_run hk2 (fun z hz=>hx z (by simp [Kp.xs,hz])) hlo hg1) (bnd_run hk3 (fun z hz=>hx z (by simp [Kp.xs,hz])) hhi hg2),.rd (.str (by simp;omega))⟩
  ·cases hk4
 case sl x lo hi =>
  simp only [isK] at hk
  split at hk<;>try (cases hk;done)
  rename_i t x' lo' hi' hop
  have ho:=opSlice_s hop
  simp only [Bool.and_eq_true] at hk
  obtain ⟨⟨⟨hk1,hk2⟩,hk3⟩,hk4⟩:=hk
  simp only [pev] at hp
  unfold slR at hp
  cases hso:subOf (rd x).core lo with
  | some kp =>
   obtain ⟨k,p⟩:=kp
   obtain ⟨hcx,rfl⟩:=subOf_some hso
   rw [hso] at hp
   simp only [Option.elim_some] at hp
   simp only [Option.bind_eq_some_iff] at hp
   obtain ⟨c,hlk,n,hn,⟨g2,h⟩,hhi,hp⟩:=hp
   simp only [Option.some.injEq,Prod.mk.injEq] at hp
   obtain ⟨rfl,rfl⟩:=hp
   obtain ⟨⟨g0,hg2⟩,hez,h0,h2⟩:=hs
   have hx':=(hx x (by simp [Kp.xs]) x' hk1).1 g0
   rw [hcx] at hx'
   have hr:=pl_sub hx'
   rw [lk_sub hob hr] at hlk
   injection hlk with hlk
   subst hlk
   obtain ⟨F,hokk⟩:=hok k
   have b2:=bnd_run (a:=a) (w:=w) (A:=A) (ct:=ct) (vl:=vl) hk3 (fun z hz=>hx z (by simp [Kp.xs,hz])) hhi hg2
   have hlo':lo'=none:=by cases lo' with | none=>rfl | some _=>simp [isXo] at hk2
   subst hlo'
   split at hk4
   ·rename_i e hu
    obtain ⟨inf,hi1,hi2⟩:=sizeT_info hk4
    rcases sub_ok hokk hr with ⟨z,l,e1,e2,_⟩ | ⟨F',hown,_,_,_⟩
    ·rw [e1,e2] at hez;simp [D.dat,D.at,D.un,D.esz] at hez
    ·have key:∃ q m c,a.eval x'=.slice q m c∧m≤c∧(q=none→c=0)∧n=m:=by
      generalize (ct k).dat p=y at hown hn
      generalize a.eval x'=v at hown
      cases hown<;>simp [D.len?] at hn
      ·exact ⟨_,_,_,rfl,Nat.le_refl _,fun _=>rfl,hn.symm⟩
      ·rename_i hc _ _ _ _ _ _ _ _
       exact ⟨_,_,_,rfl,by omega,fun h=>(by cases h),hn.symm⟩
     obtain ⟨q,m,c,e1,e2,e3,rfl⟩:=key
     have hrv:=hr.2.1
     rw [e1] at hrv
     exact ⟨_,yd_slPre (P:=P) (a:=a) ho hu hi1 e1 e2 e3 h0 h2 b2,.ref ⟨q,n,c,⟨hr.1,hrv⟩,by omega,rfl⟩⟩
   ·cases hk4
  | none =>
  rw [hso] at hp
  simp only [Option.elim_none,Option.bind_eq_some_iff] at hp
  obtain ⟨n,hn,⟨g1,l⟩,hlo,⟨g2,h⟩,hhi,z,hz,hp⟩:=hp
  simp only [Option.some.injEq,Prod.mk.injEq] at hp
  obtain ⟨rfl,rfl⟩:=hp
  obtain ⟨⟨g0,hg1,hg2⟩,hez,h0,h1,h2⟩:=hs
  have hx':=(hx x (by simp [Kp.xs]) x' hk1).1 g0
  have b1:=bnd_run (a:=a) (w:=w) (A:=A) (ct:=ct) (vl:=vl) hk2 (fun z hz=>hx z (by simp [Kp.xs,hz])) hlo hg1
  have b2:=bnd_run (a:=a) (w:=w) (A:=A) (ct:=ct) (vl:=vl) hk3 (fun z hz=>hx z (by simp [Kp.xs,hz])) hhi hg2
  split at hk4
  ·rename_i e hu
   obtain ⟨inf,hi1,hi2⟩:=sizeT_info hk4
   cases hc:(rd x).core<;>rw [hc] at hn hx' hz hez<;>simp [D.cut] at hz<;>try (simp [D.len?] at hn;done)
   ·rename_i z0 L
    subst hz
    simp only [D.len?,Option.some.injEq] at hn
    subst hn
    obtain ⟨v,e1,e2⟩:=yd_slView (P:=P) (a:=a) ho hu hi1 hi2 hez (pl_slice hx') h0 h1 h2 b1 b2
    exact ⟨v,e1,.rd e2⟩
   ·rename_i z0
    subst hz
    simp only [D.len?,Option.some.injEq] at hn
    subst hn
    have hrd:Rd w A (a.eval x') (.nils z0):=pl_rd hx' (by simp) (by simp) (by simp) (by simp) (by simp)
    have hrd':Rd w A (a.eval x') (.slice z0 []):=by
     generalize a.eval x'=v at hrd
     cases hrd;exact .nil
    obtain ⟨v,e1,e2⟩:=yd_slView (P:=P) (a:=a) ho hu hi1 hi2 hez hrd' h0 h1 h2 b1 b2
    exact ⟨v,e1,.rd (by simpa using e2)⟩
  ·cases hk4
 case mkf f caps =>
  simp only [isK] at hk
  split at hk<;>try (cases hk;done)
  rename_i f' first captured hop
  have ho:=opMkf_s hop
  simp only [Bool.and_eq_true,beq_iff_eq] at hk
  obtain ⟨⟨rfl,hk1⟩,hk2⟩:=hk
  simp only [pev,Option.bind_eq_some_iff] at hp
  obtain ⟨l,hl,hp⟩:=hp
  simp only [Option.some.injEq,Prod.mk.injEq] at hp
  obtain ⟨_,rfl⟩:=hp
  exact yd_mkf ho hk1 hk2 hx hl
end
end Go.D3
