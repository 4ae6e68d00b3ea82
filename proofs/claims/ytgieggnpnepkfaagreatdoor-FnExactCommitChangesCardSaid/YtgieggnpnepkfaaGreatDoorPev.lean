/- THE PURE OPERATIONS DO WHAT 'pev' SAYS. Generic. -/
import Derived.Test.YtgieggnpnepkfaaGreatDoorPevA
namespace Go.D3
open Go
section
variable {op:Op}
theorem opMove_s {x:Operand} (h:opMove op=some x):op=.move x∨op=.assign x:=by cases op<;>simp_all [opMove]
theorem opPick_s {a b c:Operand} (h:opPick op=some (c,a,b)):op=.pick c a b:=by cases op<;>simp_all [opPick]
theorem opBin_s {q:BinOp} {t:TypeId} {x y:Operand} (h:opBin op=some (q,t,x,y)):∃ u,op=.binOp q t x y u:=by cases op<;>simp_all [opBin]
theorem opRng_s {t:TypeId} {x:Operand} (h:opRng op=some (t,x)):op=.range t x:=by cases op<;>simp_all [opRng]
theorem opNxt_s {x:Operand} (h:opNxt op=some x):op=.next x true:=by
 cases op<;>simp [opNxt] at h
 rename_i y b
 cases b<;>simp at h
 rw [h]
theorem opNot_s {x:Operand} (h:opNot op=some x):∃ t,op=.unOp .not t x:=by
 cases op<;>simp [opNot] at h
 rename_i q t z
 cases q<;>simp at h
 exact ⟨t,by rw [h]⟩
theorem opConv_s {s t:TypeId} {x:Operand} (h:opConv op=some (s,t,x)):op=.convert s t x:=by cases op<;>simp_all [opConv]
theorem opBuiltin_s {b:Builtin} {xs:List Operand} {ts:List TypeId} (h:opBuiltin b op=some (xs,ts)):op=.call { callee:=.builtin b,args:=xs.toArray,argTypes:=ts.toArray }:=by
 cases op<;>simp [opBuiltin] at h
 rename_i c
 obtain ⟨ce,as,tys⟩:=c
 cases ce<;>simp at h
 obtain ⟨rfl,rfl,rfl⟩:=h
 rfl
theorem opCall_s {f:FuncId} {xs:List Operand} (h:opCall op=some (f,xs)):∃ ts,op=.call { callee:=.value (.func f),args:=xs.toArray,argTypes:=ts }:=by
 cases op<;>simp [opCall] at h
 rename_i c
 obtain ⟨ce,as,tys⟩:=c
 cases ce<;>simp at h
 rename_i v
 cases v<;>simp at h
 obtain ⟨rfl,rfl⟩:=h
 exact ⟨tys,rfl⟩
theorem opIdxA_s {t:TypeId} {x y:Operand} (h:opIdxA op=some (t,x,y)):op=.indexAddr t x y:=by cases op<;>simp_all [opIdxA]
theorem opLoad_s {t:TypeId} {x:Operand} (h:opLoad op=some (t,x)):op=.load t x:=by cases op<;>simp_all [opLoad]
theorem opStore_s {t:TypeId} {x y:Operand} (h:opStore op=some (t,x,y)):op=.store t x y:=by cases op<;>simp_all [opStore]
theorem opFA_s {t:TypeId} {x:Operand} {f:Nat} (h:opFA op=some (t,x,f)):op=.fieldAddr t x f:=by cases op<;>simp_all [opFA]
theorem opFld_s {t:TypeId} {x:Operand} {f:Nat} (h:opFld op=some (t,x,f)):op=.field t x f:=by cases op<;>simp_all [opFld]
theorem opBld_s {t:TypeId} {ps:Array (Nat×Operand)} (h:opBld op=some (t,ps)):op=.build t ps:=by cases op<;>simp_all [opBld]
theorem opIndex_s {t:TypeId} {x y:Operand} (h:opIndex op=some (t,x,y)):op=.index t x y:=by cases op<;>simp_all [opIndex]
theorem opExt_s {x:Operand} {i:Nat} (h:opExt op=some (x,i)):op=.extract x i:=by cases op<;>simp_all [opExt]
theorem opNck_s {x:Operand} (h:opNck op=some x):op=.nilCheck x:=by cases op<;>simp_all [opNck]
theorem opBox_s {t:TypeId} {x:Operand} (h:opBox op=some (t,x)):op=.box t x:=by cases op<;>simp_all [opBox]
theorem opAlloc_s {t:TypeId} (h:opAlloc op=some t):op=.alloc t:=by cases op<;>simp_all [opAlloc]
theorem opMkS_s {t:TypeId} {x y:Operand} (h:opMkS op=some (t,x,y)):op=.makeSlice t x y:=by cases op<;>simp_all [opMkS]
theorem opBldS_s {t:TypeId} {n:Nat} {ps:Array (Nat×Operand)} (h:opBldS op=some (t,n,ps)):op=.buildSlice t n ps:=by cases op<;>simp_all [opBldS]
theorem opSlice_s {t:TypeId} {x:Operand} {lo hi:Option Operand} (h:opSlice op=some (t,x,lo,hi)):op=.slice t x lo hi none:=by
 cases op<;>simp [opSlice] at h
 rename_i t' x' a b c
 cases c<;>simp at h
 obtain ⟨rfl,rfl,rfl,rfl⟩:=h
 rfl
theorem opMkf_s {f:FuncId} {a b:Array Operand} (h:opMkf op=some (f,a,b)):op=.makeFunc (.func f) a b:=by
 cases op<;>simp [opMkf] at h
 rename_i fn x y
 cases fn<;>simp at h
 obtain ⟨rfl,rfl,rfl⟩:=h
 rfl
end
theorem sizeT_info {P:Program} {t:TypeId} {n:Nat} (h:sizeT P t n=true):∃ i,P.info? t=some i∧i.size=n:=by
 unfold sizeT at h
 cases hi:P.info? t with
 | none=>simp [hi] at h
 | some i=>simp [hi] at h;exact ⟨i,rfl,h⟩
theorem sliceT_under {P:Program} {t e:TypeId} (h:sliceT P t=some e):P.underlying t=some (.slice e):=by
 unfold sliceT at h
 split at h<;>simp_all
theorem g1_some {x:D} {r:Option PR} {side:Prop} {d:D} (h:g1 x r=some (side,d)):∃ s,r=some (s,d)∧side=(x.gate=true∧s):=by
 cases r with
 | none=>cases h
 | some p=>obtain ⟨s,d'⟩:=p;simp only [g1,Option.some.injEq,Prod.mk.injEq] at h;obtain ⟨h1,rfl⟩:=h;exact ⟨s,rfl,h1.symm⟩
theorem g2_some {x y:D} {r:Option PR} {side:Prop} {d:D} (h:g2 x y r=some (side,d)):∃ s,r=some (s,d)∧side=((x.gate=true∧y.gate=true)∧s):=by
 cases r with
 | none=>cases h
 | some p=>obtain ⟨s,d'⟩:=p;simp only [g2,Option.some.injEq,Prod.mk.injEq] at h;obtain ⟨h1,rfl⟩:=h;exact ⟨s,rfl,h1.symm⟩
section
variable {P:Program} {o:Oper} {w:World} {A:Nat→Prop} {ct:Nat→D} {vl:Nat→Value} {a:Act} {ds:List (Option Nat)} {tr:List Nat} {rd:X→D} {ob:Nat→D}
theorem hasS_obj {c:D} {p:Path} (h:c.hasS p):c.isObj=true:=hasC_obj h.1
theorem lk_sub (hob:∀ j,(ct j).isObj=true→ob j=ct j) {v:Value} {k:Nat} {p:Path} (h:RefOk w ct vl v (.sub k p)):lk ob k=some (ct k):=by
 have:=hasS_obj h.1
 unfold lk
 rw [hob k this,if_pos this]
theorem lk_adr (hob:∀ j,(ct j).isObj=true→ob j=ct j) {v:Value} {k:Nat} {p:Path} (h:AdrOk w ct vl v k p):lk ob k=some (ct k):=by
 have:=hasC_obj h.1
 unfold lk
 rw [hob k this,if_pos this]
theorem len_own {y:D} {v:Value} {F:Nat→Prop} {n:Nat} (h:Own w A v y F) (hn:y.len?=some n):∃ q c,v=.slice q n c∧n≤maxLen:=by
 cases y<;>simp [D.len?] at hn<;>try (cases h;done)
 subst hn
 obtain ⟨p,cap,h1,h2,h3,_⟩:=own_slice h
 exact ⟨p,cap,h1,by omega⟩
theorem len_rd {y:D} {v:Value} {n:Nat} (h:Rd w A v y) (hn:y.len?=some n):∃ q c,v=.slice q n c∧n≤maxLen:=by
 cases y<;>simp [D.len?] at hn<;>try (cases h;done)
 ·subst hn
  obtain ⟨p,cap,h1,h2,h3,_⟩:=rd_slice h
  exact ⟨p,cap,h1,by omega⟩
 ·subst hn;cases h;exact ⟨_,_,rfl,by simp⟩
theorem len_run (hob:∀ j,(ct j).isObj=true→ob j=ct j) (hok:∀ j,∃ F,ContOk w A (RefOk w ct vl) (vl j) F (ct j)) {v:Value} {x:D} (hv:Pl w A (RefOk w ct vl) v x) {side:Prop} {d:D} (h:lenR ob x=some (side,d)) :
  ∃ (n:Nat) (q:Option Addr) (c:Nat),d=.int .i64 n∧v=.slice q n c∧n≤maxLen:=by
 unfold lenR at h
 split at h
 ·rename_i k p
  have hr:=pl_sub hv
  rw [lk_sub hob hr,Option.bind_some,Option.bind_eq_some_iff] at h
  obtain ⟨n,hn,h⟩:=h
  simp only [one,Option.some.injEq,Prod.mk.injEq] at h
  obtain ⟨_,rfl⟩:=h
  obtain ⟨F,hF⟩:=hok k
  rcases sub_ok hF hr with ⟨z,l,hc,rfl,hvl⟩ | ⟨F',hown,_⟩
  ·rw [hc] at hn hF
   obtain ⟨b,sz,cs,e,h1,h2,h3,h4,_⟩:=hF
   simp only [D.dat,D.at,D.un,D.len?,Option.some.injEq] at hn
   subst hn
   exact ⟨_,_,_,rfl,hvl.trans h1,h4⟩
  ·obtain ⟨q,c,h1,h2⟩:=len_own hown hn
   exact ⟨_,_,_,rfl,h1,h2⟩
 ·rename_i hns
  rw [Option.bind_eq_some_iff] at h
  obtain ⟨n,hn,h⟩:=h
  simp only [one,Option.some.injEq,Prod.mk.injEq] at h
  obtain ⟨_,rfl⟩:=h
  have hne:∀ z l,x≠.row z l:=by
   rintro z l rfl
   cases hv with
   | rd h=>cases h
   | ref h=>exact h.elim
  have hrd:Rd w A v x:=by
   cases x<;>simp [D.len?] at hn
   ·exact pl_slice hv
   ·exact absurd rfl (hne _ _)
   ·exact pl_rd hv (by simp) (by simp) (by simp) (by simp) (by simp)
  obtain ⟨q,c,h1,h2⟩:=len_rd hrd hn
  exact ⟨_,_,_,rfl,h1,h2⟩
theorem rd_elt {z:D} {L:List D} {v:Value} (h:Rd w A v (.slice z L)) {n:Nat} (hn:n<L.length):∃ b off c,v=.slice (some ⟨b,off,none⟩) L.length c∧Rd w A (.pointer (some ⟨b,off+n*z.cells.length,none⟩)) (.ptr (L.getD n z).cells)∧0<z.cells.length:=by
 have hL:L.getD n z=L[n]:=by rw [List.getD_eq_getElem?_getD,List.getElem?_eq_getElem hn];rfl
 cases h with
 | empty=>simp at hn
 | nil=>simp at hn
 | @slice _ _ b off cap sz hA hc hm hz hzz hsz vs hcells hr =>
  subst hzz
  refine ⟨b,off,cap,rfl,?_,hz⟩
  have key:∀ (j:Nat) x,(L.getD n z).cells[j]?=some x→cellAt L z.cells.length (n*z.cells.length+j)=some x:=by
   intro j x hx
   rw [hL] at hx
   have hj:=(List.getElem?_eq_some_iff.1 hx).1
   rw [hsz _ (List.getElem_mem hn)] at hj
   unfold cellAt
   have e1:(n*z.cells.length+j) / z.cells.length=n:=by rw [Nat.mul_comm,Nat.mul_add_div hz,Nat.div_eq_of_lt hj];rfl
   have e2:(n*z.cells.length+j) % z.cells.length=j:=by rw [Nat.mul_comm,Nat.mul_add_mod,Nat.mod_eq_of_lt hj]
   rw [e1,e2,List.getElem?_eq_getElem hn]
   exact hx
  refine .ptr hA (fun j=>vs (n*z.cells.length+j)) (fun j x hx=>?_) (fun j x hx=>hr _ _ (key j x hx))
  have:=hcells _ _ (key j x hx)
  rwa [← Nat.add_assoc] at this
theorem ld_run (hob:∀ j,(ct j).isObj=true→ob j=ct j) (hok:∀ j,∃ F,ContOk w A (RefOk w ct vl) (vl j) F (ct j)) {v:Value} {x:D} (hv:Pl w A (RefOk w ct vl) v x) {side:Prop} {d:D} (h:ldR ob x=some (side,d)) :
  ∃ b off u,v=.pointer (some ⟨b,off,none⟩)∧w.cell? ⟨b,off,none⟩=some u∧Pl w A (RefOk w ct vl) u d:=by
 unfold ldR at h
 split at h
 ·rename_i y r
  simp only [one,Option.some.injEq,Prod.mk.injEq] at h
  obtain ⟨_,rfl⟩:=h
  obtain ⟨b,off,h1,h2,h3⟩:=pl_ptr hv
  obtain ⟨u,h4,h5⟩:=h3 0 y rfl
  exact ⟨b,off,u,h1,h4,.rd h5⟩
 ·rename_i k p
  have hr:=pl_adr hv
  rw [lk_adr hob hr,Option.bind_some] at h
  simp only [one,Option.some.injEq,Prod.mk.injEq] at h
  obtain ⟨_,rfl⟩:=h
  obtain ⟨h1,ad,h2,h3⟩:=hr
  obtain ⟨F,hF⟩:=hok k
  obtain ⟨u,h4,h5,h6⟩:=look_ok hF h1 (by rintro rfl;simp [adrAt] at h2) h2
  obtain ⟨b,off,sp⟩:=ad
  simp only at h5
  cases sp with
  | some _=>simp at h5
  | none=>exact ⟨b,off,u,h3,h4,h6⟩
 ·cases h
theorem adr_none (hok:∀ j,∃ F,ContOk w A (RefOk w ct vl) (vl j) F (ct j)) {v:Value} {k:Nat} {p:Path} (hr:AdrOk w ct vl v k p):∃ b off,v=.pointer (some ⟨b,off,none⟩)∧p≠[]∧adrAt w (vl k) (ct k) p=some ⟨b,off,none⟩:=by
 obtain ⟨h1,ad,h2,h3⟩:=hr
 have hne:p≠[]:=by rintro rfl;simp [adrAt] at h2
 obtain ⟨F,hF⟩:=hok k
 obtain ⟨u,h4,h5,h6⟩:=look_ok hF h1 hne h2
 obtain ⟨b,off,sp⟩:=ad
 simp only at h5
 cases sp with
 | some _=>simp at h5
 | none=>exact ⟨b,off,h3,hne,h2⟩
theorem bump_ne {p:Path} (n:Nat) (h:p≠[]):bump p n≠[]:=by
 match p with
 | []=>exact absurd rfl h
 | [_]=>simp [bump]
 | _::_::_=>simp [bump]
theorem kidA_bump {v:Value} {x:D} {i off n:Nat} {b o':Nat} (h:kidA v x i off=some ⟨b,o',none⟩):kidA v x i (off+n)=some ⟨b,o'+n,none⟩:=by
 unfold kidA at *
 cases hx:x.un<;>rw [hx] at h<;>simp only [kidAT] at h ⊢<;>try (cases h;done)
 all_goals
  split at h
  ·rename_i ad _ _
   simp only [Option.some.injEq,Addr.mk.injEq] at h ⊢
   obtain ⟨h1,h2,h3⟩:=h
   exact ⟨h1,by omega,h3⟩
  ·cases h
theorem adrAt_bump {n:Nat}:∀ (p:Path) {v:Value} {x:D} {b o':Nat},adrAt w v x p=some ⟨b,o',none⟩→adrAt w v x (bump p n)=some ⟨b,o'+n,none⟩
 | [],_,_,_,_,h=>by simp [adrAt] at h
 | [(i,off)],v,x,b,o',h=>kidA_bump h
 | (i,off)::t::p,v,x,b,o',h=>by
  simp only [adrAt,Option.bind_eq_some_iff] at h
  obtain ⟨u,h1,h2⟩:=h
  have:=adrAt_bump (n:=n) (t::p) h2
  obtain ⟨i',off'⟩:=t
  cases p<;>simp only [bump,adrAt,h1,Option.bind_some] at this ⊢<;>exact this
theorem looks_get (k:Nat) (c:D) (p:Path):∀ (n j m:Nat),(looks k c p n j)[m]?=if m<n then some (lookC k c (bump p (j+m))) else none
 | 0,j,m=>by simp [looks]
 | n+1,j,0=>by simp [looks]
 | n+1,j,m+1=>by
  simp only [looks,List.getElem?_cons_succ,looks_get k c p n (j+1) m,Nat.add_lt_add_iff_right]
  rw [show j+1+m=j+(m+1) by omega]
theorem looks_length (k:Nat) (c:D) (p:Path):∀ (n j:Nat),(looks k c p n j).length=n
 | 0,_=>rfl
 | n+1,j=>by simp [looks,looks_length k c p n]
theorem hass_get {c:D} {p:Path}:∀ {n j:Nat},hass c p n j→∀ m,m<n→c.hasC (bump p (j+m))
 | 0,_,_,m,hm=>by omega
 | n+1,j,h,0,_=>h.1
 | n+1,j,h,m+1,hm=>by
  have:=hass_get h.2 m (by omega)
  rwa [show j+1+m=j+(m+1) by omega] at this
theorem lda_run (hob:∀ j,(ct j).isObj=true→ob j=ct j) (hok:∀ j,∃ F,ContOk w A (RefOk w ct vl) (vl j) F (ct j)) {n:Nat} {v:Value} {x:D} (hv:Pl w A (RefOk w ct vl) v x) {side:Prop} {d:D} (h:ldaR n ob x=some (side,d)) (hs:side) :
  ∃ (b off:Nat) (cs:List Value),v=.pointer (some ⟨b,off,none⟩)∧cs.length=n∧(∀ j u,cs[j]?=some u→w.cell? ⟨b,off+j,none⟩=some u)∧Pl w A (RefOk w ct vl) (.agg cs.toArray) d:=by
 have fin:∀ (b off:Nat) (l:List D) (us:Nat→Value),l.length=n→(∀ j x,l[j]?=some x→w.cell? ⟨b,off+j,none⟩=some (us j)∧Pl w A (RefOk w ct vl) (us j) x)→v=.pointer (some ⟨b,off,none⟩) →
   ∃ (b off:Nat) (cs:List Value),v=.pointer (some ⟨b,off,none⟩)∧cs.length=n∧(∀ j u,cs[j]?=some u→w.cell? ⟨b,off+j,none⟩=some u)∧Pl w A (RefOk w ct vl) (.agg cs.toArray) (.agg l):=by
  intro b off l us hl hc hv
  refine ⟨b,off,(List.range n).map us,hv,by simp,fun j u hj=>?_,.agg (by simp [hl]) fun j x hx=>?_⟩
  ·rw [List.getElem?_map,Option.map_eq_some_iff] at hj
   obtain ⟨m,hm,rfl⟩:=hj
   obtain ⟨h1,h2⟩:=List.getElem?_eq_some_iff.1 hm
   simp at h1 h2
   subst h2
   exact (hc j l[j] (List.getElem?_eq_getElem (by omega))).1
  ·have hj:=(List.getElem?_eq_some_iff.1 hx).1
   have:((List.range n).map us).toArray.getD j undef=us j:=by simp [show j<n by omega]
   rw [this]
   exact (hc j x hx).2
 unfold ldaR at h
 split at h
 ·rename_i l
  simp only [Option.some.injEq,Prod.mk.injEq] at h
  obtain ⟨h0,rfl⟩:=h
  rw [← h0] at hs
  obtain ⟨b,off,h1,h2,h3⟩:=pl_ptr hv
  have hch:∀ j,∃ u,∀ x,l[j]?=some x→w.cell? ⟨b,off+j,none⟩=some u∧Rd w A u x:=by
   intro j
   cases hj:l[j]? with
   | none=>exact ⟨undef,by simp⟩
   | some x=>obtain ⟨u,h4,h5⟩:=h3 j x hj;exact ⟨u,fun y hy=>by injection hy with hy;subst hy;exact ⟨h4,h5⟩⟩
  refine fin b off (l.take n) (fun j=>Classical.choose (hch j)) (by simp;omega) (fun j x hx=>?_) h1
  rw [List.getElem?_take] at hx
  split at hx
  ·obtain ⟨h4,h5⟩:=Classical.choose_spec (hch j) x hx
   exact ⟨h4,.rd h5⟩
  ·cases hx
 ·rename_i k p
  have hr:=pl_adr hv
  rw [lk_adr hob hr,Option.bind_some] at h
  simp only [Option.some.injEq,Prod.mk.injEq] at h
  obtain ⟨h0,rfl⟩:=h
  rw [← h0] at hs
  obtain ⟨b,off,h1,hne,h2⟩:=adr_none hok hr
  obtain ⟨F,hF⟩:=hok k
  have hch:∀ j,∃ u,j<n→w.cell? ⟨b,off+j,none⟩=some u∧Pl w A (RefOk w ct vl) u (lookC k (ct k) (bump p j)):=by
   intro j
   by_cases hj:j<n
   ·have h3:=hass_get hs j hj
    rw [Nat.zero_add] at h3
    obtain ⟨u,h4,_,h6⟩:=look_ok hF h3 (bump_ne _ hne) (adrAt_bump p h2)
    exact ⟨u,fun _=>⟨h4,h6⟩⟩
   ·exact ⟨undef,fun h=>absurd h hj⟩
  refine fin b off _ (fun j=>Classical.choose (hch j)) (looks_length _ _ _ _ _) (fun j x hx=>?_) h1
  rw [looks_get] at hx
  split at hx
  ·rename_i hj
   injection hx with hx
   rw [Nat.zero_add] at hx
   subst hx
   exact Classical.choose_spec (hch j) hj
  ·cases hx
 ·cases h
end
end Go.D3
