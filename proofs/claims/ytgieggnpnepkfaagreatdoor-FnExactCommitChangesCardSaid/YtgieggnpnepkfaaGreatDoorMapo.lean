/- MAPS AND BYTES: what look-ups,lengths,new entries and conversions compute. Generic. -/
import Derived.Test.YtgieggnpnepkfaaGreatDoorPev
import Derived.MapKept
import Derived.Laws.RangeAny
import Derived.Laws.BytesString
namespace Go.D3
open Go
def kindOk (d:TypeDesc) (k:D):Prop :=
 match d,k with
 | .int _,.int _ _=>True
 | .bool,.bool _=>True
 | .string,.str _=>True
 | _,_=>False
theorem kind_of {P:Program} {t:TypeId} {kk:Nat} {k:D} (ht:kindT P t kk=true) (hk:k.keyS kk=true):∃ d,P.underlying t=some d∧kindOk d k:=by
 unfold kindT at ht
 split at ht<;>try (cases ht;done)
 all_goals
  rename_i hu
  cases k<;>simp only [D.keyS,Bool.false_eq_true] at hk<;>try (simp at hk;done)
  exact ⟨_,hu,trivial⟩
theorem same_now {d:TypeDesc} {kv ev:Value} {k x:D} {b:Bool} (hd:kindOk d k) (hk:Sc kv k) (hx:Sc ev x) (h:keyEq k x=some b):Instr.sameNow d kv ev=some b∧(b=true→ev=kv∧x=k):=by
 unfold keyEq at h
 split at h
 ·split at h
  ·rename_i hkk
   subst hkk
   injection h with h
   cases hk;cases hx
   cases d<;>try exact hd.elim
   subst h
   refine ⟨by simp [Instr.sameNow],fun hb=>?_⟩
   have:=eq_of_beq hb
   subst this;exact ⟨rfl,rfl⟩
  ·cases h
 ·injection h with h
  cases hk;cases hx
  cases d<;>try exact hd.elim
  rename_i a b' _ _
  subst h
  refine ⟨?_,fun hb=>?_⟩
  ·simp only [Instr.sameNow,Option.some.injEq]
   rw [Bool.eq_iff_iff,MapKept.bytes_beq,beq_iff_eq]
   simp
  ·have:=eq_of_beq hb
   subst this;exact ⟨rfl,rfl⟩
 ·injection h with h
  cases hk;cases hx
  cases d<;>try exact hd.elim
  subst h
  refine ⟨rfl,fun hb=>?_⟩
  have:=eq_of_beq hb
  subst this;exact ⟨rfl,rfl⟩
 ·cases h
theorem find_now {d:TypeDesc} {kv:Value} {k:D} (hd:kindOk d k) (hk:Sc kv k):∀ (l:List MapEntry) (ks:List D) (n:Nat) {r:Option Nat},l.length=ks.length →
  (∀ (j:Nat) (e:MapEntry) (x:D),l[j]?=some e→ks[j]?=some x→Sc e.key x)→mfind k ks=some r →
  Instr.findNow d kv l n=some (r.map fun i=>(n+i,((l[i]?).map (·.val)).getD undef))∧∀ i,r=some i→∃ e,l[i]?=some e∧e.key=kv∧ks[i]?=some k
 | [],[],n,r,_,_,h=>by
  simp only [mfind,Option.some.injEq] at h
  subst h
  exact ⟨rfl,fun i hi=>by cases hi⟩
 | [],_::_,_,_,h,_,_=>by simp at h
 | _::_,[],_,_,h,_,_=>by simp at h
 | e::l,x::ks,n,r,hl,hs,h=>by
  simp only [mfind,Option.bind_eq_some_iff] at h
  obtain ⟨b,hb,h⟩:=h
  obtain ⟨h1,h2⟩:=same_now hd hk (hs 0 e x rfl rfl) hb
  cases b with
  | true =>
   simp only [if_true,Option.some.injEq] at h
   subst h
   obtain ⟨h3,h4⟩:=h2 rfl
   refine ⟨by simp [Instr.findNow,h1],fun i hi=>?_⟩
   injection hi with hi
   subst hi
   exact ⟨e,rfl,h3,by rw [h4];rfl⟩
  | false =>
   simp only [Bool.false_eq_true,if_false,Option.bind_eq_some_iff] at h
   obtain ⟨r',hr',h⟩:=h
   injection h with h
   subst h
   obtain ⟨i1,i2⟩:=find_now hd hk l ks (n+1) (by simpa using hl) (fun j e x hj hx=>hs (j+1) e x (by simpa using hj) (by simpa using hx)) hr'
   refine ⟨?_,fun i hi=>?_⟩
   ·simp only [Instr.findNow,h1,i1]
    cases r' with
    | none=>rfl
    | some i=>simp only [Option.map_some,List.getElem?_cons_succ];rw [show n+1+i=n+(i+1) by omega]
   ·cases r' with
    | none=>cases hi
    | some j =>
     simp only [Option.map_some,Option.some.injEq] at hi
     subst hi
     obtain ⟨e',e1,e2,e3⟩:=i2 j rfl
     exact ⟨e',by simpa using e1,e2,by simpa using e3⟩
theorem check_key {P:Program} {w:World} {kt:TypeId} {d:TypeDesc} {k:D} {kv:Value} (hu:P.underlying kt=some d) (hd:kindOk d k) (hk:Sc kv k) (e:Bool) (n:Nat):(Instr.checkKey e (n+1) kt kv).run P w=.ok () w:=by
 unfold Instr.checkKey
 simp only [Sem.run_bind,run_underlying hu,Result.andThen]
 cases d<;>cases k<;>first | exact hd.elim | (cases hk;simp)
theorem Sc.rd {w:World} {A:Nat→Prop} {v:Value} {d:D} (h:Sc v d):Rd w A v d:=by
 induction h with
 | int h=>exact .int h
 | bool=>exact .bool
 | str h=>exact .str h
 | agg hs _ ih=>exact .agg hs ih
theorem sc_of_scal {w:World} {A:Nat→Prop} {v:Value} {d:D} (h:Rd w A v d) (hd:d.scal=true):Sc v d:=by
 cases h<;>first | cases hd | skip
 ·exact .int ‹_›
 ·exact .bool
 ·exact .str ‹_›
theorem keyS_scal {kk:Nat} {d:D} (h:d.keyS kk=true):d.scal=true:=by cases d<;>first | rfl | (simp [D.keyS] at h)
section
variable {P:Program} {o:Oper} {w:World} {A:Nat→Prop} {ct:Nat→D} {vl:Nat→Value} {a:Act} {ob:Nat→D}
theorem map_view (hob:∀ j,(ct j).isObj=true→ob j=ct j) (hok:∀ j,∃ F,ContOk w A (RefOk w ct vl) (vl j) F (ct j)) {v:Value} {x:D} (h:Pl w A (RefOk w ct vl) v x) {e:List D×List D} (hm:mapOf ob x=some e) :
  (v=.map none∧e=([],[]))∨∃ r es clock,v=.map (some r)∧w.heap[r]?=some (.map es clock)∧MapE es e.1 e.2:=by
 unfold mapOf at hm
 split at hm
 ·rename_i k p
  have hr:=pl_sub h
  rw [lk_sub hob hr,Option.bind_some] at hm
  obtain ⟨F,hF⟩:=hok k
  rcases sub_ok hF hr with ⟨z,l,hck,rfl,_⟩ | ⟨F',hown,_,_,_⟩
  ·rw [hck] at hm;cases hm
  ·generalize (ct k).dat p=y at hm hown
   cases hown<;>simp only [D.mp?,reduceCtorEq,Option.some.injEq] at hm
   subst hm
   exact .inr ⟨_,_,_,rfl,‹_›,‹_›⟩
 ·rename_i hno
  have hrd:=pl_rd h (fun k p hh=>hno k p hh) (by rintro k p rfl;cases hm) (by rintro f c rfl;cases hm) (by rintro l rfl;cases hm) (by rintro l rfl;cases hm) (by rintro k p n rfl;cases hm)
  cases hrd<;>simp only [D.mpn?,reduceCtorEq,Option.some.injEq] at hm
  ·subst hm;exact .inr ⟨_,_,_,rfl,‹_›,‹_›⟩
  ·subst hm;exact .inl ⟨rfl,rfl⟩
theorem run_zero {t:TypeId} {i:TypeInfo} {z:Value} (h:P.info? t=some i) (hz:i.zero=some z):(zeroValue t).run P w=.ok z w:=by
 simp [zeroValue,typeInfo,h,hz]
theorem lookup_run {t kt et:TypeId} {d:TypeDesc} {kv m zv:Value} {k:D} {e:List D×List D} {r:Option Nat} {i:TypeInfo} (ok:Bool) (hm:P.underlying t=some (.map kt et)) (hu:P.underlying kt=some d) (hd:kindOk d k) (hk:Sc kv k)
  (hv:(m=.map none∧e=([],[]))∨∃ r es clock,m=.map (some r)∧w.heap[r]?=some (.map es clock)∧MapE es e.1 e.2) (hf:mfind k e.1=some r) (hi:P.info? et=some i) (hz:i.zero=some zv) {z:D} (hzz:Sc zv z) :
  ∃ u,(Instr.lookup t m kv ok).run P w=.ok (if ok then .tuple #[u,.bool r.isSome] else u) w∧Sc u (mval z e.2 r):=by
 rcases hv with ⟨rfl,rfl⟩ | ⟨b,es,clock,rfl,hb,hE⟩
 ·simp only [mfind,Option.some.injEq] at hf
  subst hf
  refine ⟨zv,?_,hzz⟩
  unfold Instr.lookup
  simp only [Sem.run_bind,run_underlying hm,Result.andThen_ok,Sem.run_pure,check_key hu hd hk,MapKept.run_findKey hu (show Instr.findNow d kv (#[]:Array MapEntry).toList 0=some none from rfl),run_zero hi hz]
  cases ok<;>rfl
 ·obtain ⟨⟨l1,l2,l3⟩,s1,s2⟩:=hE
  obtain ⟨f1,f2⟩:=find_now hd hk es.toList e.1 0 (by simpa using l1) (fun j x y hj hy=>s1 j x y (by simpa using hj) hy) hf
  cases r with
  | none =>
   refine ⟨zv,?_,hzz⟩
   unfold Instr.lookup
   simp only [Sem.run_bind,run_underlying hm,Result.andThen_ok,Sem.run_pure,MapKept.run_getObj_map hb,check_key hu hd hk,MapKept.run_findKey hu f1,run_zero hi hz,Option.map_none]
   cases ok<;>rfl
  | some j =>
   obtain ⟨x,x1,x2,x3⟩:=f2 j rfl
   have hj:j<e.2.length:=by have:=(List.getElem?_eq_some_iff.1 x1).1;simp at this;omega
   refine ⟨x.val,?_,?_⟩
   ·unfold Instr.lookup
    simp only [Sem.run_bind,run_underlying hm,Result.andThen_ok,Sem.run_pure,MapKept.run_getObj_map hb,check_key hu hd hk,MapKept.run_findKey hu f1,Option.map_some,x1,Option.getD_some]
    cases ok<;>rfl
   ·have:mval z e.2 (some j)=e.2[j]:=by simp [mval,hj]
    rw [this]
    exact s2 j x _ (by simpa using x1) (List.getElem?_eq_getElem hj)
theorem nilI_run {o:Oper} {a:Act} {neg:Bool} {v:Value} {d:D} (h:Pl w A (RefOk w ct vl) v d) {side:Prop} {s:D} (hn:nilIR neg d=some (side,s)) {t:TypeId} {ms:Array (String×TypeId)} (hu:P.underlying t=some (.interface ms)) {x:Operand} {u:TypeId} (ho:o.op=.binOp (if neg then .neq else .eql) t x (.const .nilIface) u) (hx:a.eval x=v) :
  ∃ b,s=.bool b∧(execOp a.eval o).run P w=.ok (.value (.bool b)) w:=by
 have hcn:a.eval (.const .nilIface)=.nilIface:=rfl
 unfold nilIR at hn
 split at hn
 ·simp only [Option.some.injEq,Prod.mk.injEq] at hn
  obtain ⟨_,rfl⟩:=hn
  have:=pl_rd h (by simp) (by simp) (by simp) (by simp) (by simp) (by simp)
  cases this
  have e:∀ n:Nat,(Op.equalIn (n+1) t .nilIface .nilIface).run P w=.ok true w:=fun n=>by simp [Op.equalIn,run_underlying hu]
  refine ⟨_,rfl,?_⟩
  cases neg<;>simp [execOp,ho,hx,hcn,eqGuard,binOp,Op.equal,Op.maxDepth,e 9999]
 ·rename_i t' y
  simp only [Option.some.injEq,Prod.mk.injEq] at hn
  obtain ⟨_,rfl⟩:=hn
  have:=pl_rd h (by simp) (by simp) (by simp) (by simp) (by simp) (by simp)
  cases this
  have e:∀ n:Nat,∀ v,(Op.equalIn (n+1) t (.iface t' v) .nilIface).run P w=.ok false w:=fun n v=>by simp [Op.equalIn,run_underlying hu]
  refine ⟨_,rfl,?_⟩
  cases neg<;>simp [execOp,ho,hx,hcn,eqGuard,binOp,Op.equal,Op.maxDepth,e 9999]
 ·cases hn
theorem opMkM_s {op:Op} {t:TypeId} (h:opMkM op=some t):op=.makeMap t none:=by
 cases op<;>simp [opMkM] at h
 rename_i t' r
 cases r<;>simp at h
 rw [h]
theorem opLookup_s {op:Op} {t:TypeId} {x i:Operand} {ok:Bool} (h:opLookup op=some (t,x,i,ok)):op=.lookup t x i ok:=by cases op<;>simp_all [opLookup]
theorem opMup_s {op:Op} {t:TypeId} {m k v:Operand} (h:opMup op=some (t,m,k,v)):op=.mapUpdate t m k v:=by cases op<;>simp_all [opMup]
theorem mapT_s {t k e:TypeId} (h:mapT P t=some (k,e)):P.underlying t=some (.map k e):=by
 unfold mapT at h
 split at h
 ·rename_i hu
  injection h with h;injection h with h1 h2
  subst h1;subst h2;exact hu
 ·cases h
theorem zeroV_s {t:TypeId} {d:D} (h:zeroV P t d=true):∃ i z,P.info? t=some i∧i.zero=some z∧Sc z d:=by
 unfold zeroV at h
 split at h
 ·rename_i i hi
  split at h
  ·rename_i z hz
   simp only [Bool.and_eq_true] at h
   exact ⟨i,z,hi,hz,sc_of_scal (zeroC_rd (w:=default) (A:=fun _=>False) h.1) h.2⟩
  ·cases h
 ·cases h
theorem bytes_vals {w:World} {A:Nat→Prop} {vs:Nat→Value}:∀ {l:List D} {s:List UInt8},bytesOf l=some s→(∀ j x,l[j]?=some x→Rd w A (vs j) x) →
  ∃ ns:List Int,ns.length=l.length∧(∀ j n,ns[j]?=some n→vs j=.int .u8 n)∧s=ns.map fun n=>UInt8.ofNat n.toNat:=by
 intro l
 induction l generalizing vs with
 | nil=>intro s h _;simp only [bytesOf,Option.some.injEq] at h;subst h;exact ⟨[],rfl,by simp,rfl⟩
 | cons x r ih =>
  intro s h hr
  unfold bytesOf at h
  split at h
  ·rename_i h0;cases h0
  ·rename_i n r' h0
   injection h0 with h1 h2
   subst h1;subst h2
   rw [Option.bind_eq_some_iff] at h
   obtain ⟨s',hs',h⟩:=h
   injection h with h
   subst h
   obtain ⟨ns,n1,n2,n3⟩:=ih (vs:=fun j=>vs (j+1)) hs' (fun j y hj=>hr (j+1) y (by simpa using hj))
   refine ⟨n::ns,by simp [n1],fun j m hj=>?_,by rw [n3];rfl⟩
   cases j with
   | zero =>
    simp at hj;subst hj
    have:=hr 0 _ rfl
    generalize vs 0=u at this ⊢
    cases this;rfl
   | succ j=>exact n2 j m (by simpa using hj)
  ·cases h
theorem foldl_push (ns:List Int):∀ (s:ByteArray),ns.foldl (fun r n=>r.push (UInt8.ofNat n.toNat)) s=⟨s.data++(ns.map fun n=>UInt8.ofNat n.toNat).toArray⟩:=by
 induction ns with
 | nil=>intro s;simp
 | cons n ns ih =>
  intro s
  rw [List.foldl_cons,ih]
  have:(s.push (UInt8.ofNat n.toNat)).data=s.data.push (UInt8.ofNat n.toNat):=rfl
  rw [this]
  congr 1
  apply Array.ext'
  simp
theorem bytes_one:∀ {L:List D} {l:List UInt8},bytesOf L=some l→∀ x∈L,x.cells=[x]
 | [],_,_,x,hx=>by cases hx
 | y::r,l,hl,x,hx=>by
  unfold bytesOf at hl
  split at hl
  ·rename_i h0;cases h0
  ·rename_i n r' h0
   injection h0 with h1 h2
   subst h1;subst h2
   rw [Option.bind_eq_some_iff] at hl
   obtain ⟨s',hs',_⟩:=hl
   rcases List.mem_cons.1 hx with rfl | hx
   ·rfl
   ·exact bytes_one hs' x hx
  ·cases hl
theorem bytesOf_cell {sz j:Nat} {x:D}:∀ {L:List D} {l:List UInt8},bytesOf L=some l→cellAt L sz j=some x→∃ n,x=.int .u8 n:=by
 intro L l hl hx
 have go:∀ {L:List D} {l:List UInt8},bytesOf L=some l→∀ d∈L,∃ n,d=.int .u8 n:=by
  intro L
  induction L with
  | nil=>intro _ _ d hd;cases hd
  | cons y r ih =>
   intro l hl d hd
   unfold bytesOf at hl
   split at hl
   ·rename_i h0;cases h0
   ·rename_i n r' h0
    injection h0 with h1 h2
    subst h1;subst h2
    rw [Option.bind_eq_some_iff] at hl
    obtain ⟨s',hs',_⟩:=hl
    rcases List.mem_cons.1 hd with rfl | hd
    ·exact ⟨n,rfl⟩
    ·exact ih hs' d hd
   ·cases hl
 unfold cellAt at hx
 rw [Option.bind_eq_some_iff] at hx
 obtain ⟨d,h1,h2⟩:=hx
 obtain ⟨n,rfl⟩:=go hl d (List.mem_of_getElem? h1)
 have:=List.mem_of_getElem? h2
 simp only [D.cells,List.mem_singleton] at this
 exact ⟨n,this⟩
theorem cvs_run (hob:∀ j,(ct j).isObj=true→ob j=ct j) (hok:∀ j,∃ F,ContOk w A (RefOk w ct vl) (vl j) F (ct j)) {v:Value} {x:D} (h:Pl w A (RefOk w ct vl) v x) {side:Prop} {res:D} (hc:cvSR ob x=some (side,res))
  {s t e:TypeId} (hs:P.underlying s=some (.slice e)) (he:P.underlying e=some (.int .u8)) (ht:P.underlying t=some .string) :
  ∃ l:List UInt8,res=.str l∧l.length≤maxLen∧(convert s t v).run P w=.ok (.string ⟨l.toArray⟩) w:=by
 have nilc:∀ l:List UInt8,v=.slice none 0 0→l=[]→(convert s t v).run P w=.ok (.string ⟨l.toArray⟩) w:=by
  rintro l rfl rfl
  rw [run_convert_bytes_string w s t e none 0 0 hs he ht]
  simp [Conv.bytesToString];rfl
 have key:∀ {d:D} {l:List UInt8},d.bys?=some l→Rd w (fun _=>True) v d→l.length≤maxLen∧(convert s t v).run P w=.ok (.string ⟨l.toArray⟩) w:=by
  intro d l hl hr
  cases hr<;>simp only [D.bys?,reduceCtorEq] at hl
  ·simp only [bytesOf,Option.some.injEq] at hl;subst hl
   exact ⟨Nat.zero_le _,nilc _ rfl rfl⟩
  ·simp only [bytesOf,Option.some.injEq] at hl;subst hl
   refine ⟨Nat.zero_le _,?_⟩
   rw [run_convert_bytes_string w s t e _ _ _ hs he ht,run_bytesToString w _ 0 _ [] (by simpa using run_loadCells_list (P:=P) w _ [] (fun j v hj=>by simp at hj))]
   rfl
  ·rename_i z L b off cap sz hA hc hm hz hzz hsz vs hcells hr'
   have h1:∀ x∈L,x.cells=[x]:=bytes_one hl
   have hcell:∀ j,cellAt L 1 j=L[j]?:=fun j=>by
    unfold cellAt
    rw [Nat.div_one,Nat.mod_one]
    cases hq:L[j]? with
    | none=>rfl
    | some d=>simp [h1 d (List.mem_of_getElem? hq)]
   by_cases hL0:L=[]
   ·subst hL0
    simp only [bytesOf,Option.some.injEq] at hl;subst hl
    refine ⟨Nat.zero_le _,?_⟩
    rw [run_convert_bytes_string w s t e _ _ _ hs he ht,List.length_nil,run_bytesToString w _ 0 _ [] (by simpa using run_loadCells_list (P:=P) w _ [] (fun j v hj=>by simp at hj))]
    rfl
   have hs1:sz=1:=by
    obtain ⟨x,hx⟩:=List.exists_mem_of_ne_nil L hL0
    have:=hsz x hx
    rw [h1 x hx] at this
    exact this.symm
   subst hs1
   obtain ⟨ns,n1,n2,n3⟩:=bytes_vals hl (fun j x hx=>hr' j x (by rw [hcell];exact hx))
   have hll:l.length=L.length:=by rw [n3,List.length_map,n1]
   refine ⟨by omega,?_⟩
   rw [run_convert_bytes_string w s t e _ _ _ hs he ht,run_bytesToString w _ L.length _ ns,foldl_push,← n3]
   ·simp
   ·have:=run_loadCells_list (P:=P) w ⟨b,off,none⟩ (ns.map (Value.int .u8)) (fun j v hj=>by
     rw [List.getElem?_map,Option.map_eq_some_iff] at hj
     obtain ⟨n,hn,rfl⟩:=hj
     have hj':=(List.getElem?_eq_some_iff.1 hn).1
     rw [Addr.add_lit,← n2 j n hn]
     exact hcells j L[j] (by rw [hcell];exact List.getElem?_eq_getElem (by omega)))
    rw [List.length_map,n1] at this
    exact this
  ·injection hl with hl
   subst hl
   exact ⟨Nat.zero_le _,nilc _ rfl rfl⟩
 unfold cvSR at hc
 split at hc
 ·rename_i k p
  have hr:=pl_sub h
  rw [lk_sub hob hr,Option.bind_some,Option.bind_eq_some_iff] at hc
  obtain ⟨l,hl,hc⟩:=hc
  simp only [one,Option.some.injEq,Prod.mk.injEq] at hc
  obtain ⟨_,rfl⟩:=hc
  obtain ⟨F,hF⟩:=hok k
  rcases sub_ok hF hr with ⟨z,l',hck,rfl,hvk⟩ | ⟨F',hown,_,_,_⟩
  ·rw [hck] at hl hF
   have hl:bytesOf l'=some l:=hl
   obtain ⟨b,sz,cs,e,h1,h2,h3,h4,h5,h6,h7,h8,h9⟩:=hF
   refine ⟨l,rfl,key (d:=.slice z l') hl ?_⟩
   rw [hvk,h1]
   refine .slice trivial (Nat.le_refl _) h4 h5 h6 h7 (fun j=>cs.getD j undef) (fun j x hj=>?_) (fun j x hj=>?_)
   ·rw [Nat.zero_add]
    exact cell_own h2 (by have:=cellAt_lt h5 hj;omega)
   ·have hx:=(h8 j x hj).1
    obtain ⟨n,rfl⟩:=bytesOf_cell hl hj
    exact (pl_int hx).1▸.int (pl_int hx).2
  ·exact ⟨l,rfl,key hl (hown.rd (fun _ _=>trivial) fun _ _=>trivial)⟩
 ·rename_i hno
  rw [Option.bind_eq_some_iff] at hc
  obtain ⟨l,hl,hc⟩:=hc
  simp only [one,Option.some.injEq,Prod.mk.injEq] at hc
  obtain ⟨_,rfl⟩:=hc
  have hrd:=pl_rd h (fun k p hh=>hno k p hh) (by rintro k p rfl;cases hl) (by rintro f c rfl;cases hl) (by rintro l rfl;cases hl) (by rintro l rfl;cases hl) (by rintro k p n rfl;cases hl)
  exact ⟨l,rfl,key hl (hrd.mono (fun _ _=>trivial) fun _ _=>rfl)⟩
end
end Go.D3
