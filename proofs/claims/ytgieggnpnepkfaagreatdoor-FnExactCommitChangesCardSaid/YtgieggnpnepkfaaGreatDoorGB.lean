/- CONTRACTS: paths and schemas,the program's side. -/
import Derived.Test.YtgieggnpnepkfaaGreatDoorGA
import Derived.Lib.SplitLaws
import Derived.Lib.Join
import Derived.Laws.RangeAny
import Derived.Lib.ParseIntBCases
import Derived.Lib.ItoaMem
namespace Go.D3
open Go
set_option maxRecDepth 100000
def mkp (k:Int) (a:List Int) (i:Nat):List Int:=((List.range i).map fun j:Nat=>k+j)++a.drop i
def mks (k:Int) (n:Nat):List Int:=(List.range n).map fun j:Nat=>k+j
theorem mkp_zero {k:Int} {a:List Int}:mkp k a 0=a:=by simp [mkp]
theorem mkp_len {k:Int} {a:List Int} {i:Nat} (h:i≤a.length):(mkp k a i).length=a.length:=by simp [mkp];omega
theorem mkp_set {k:Int} {a:List Int} {i:Nat} (h:i<a.length):(mkp k a i).set i (k+i)=mkp k a (i+1):=by
 unfold mkp
 rw [List.set_append_right _ _ (by simp),List.range_succ,List.map_append]
 simp only [List.length_map,List.length_range,Nat.sub_self,List.map_cons,List.map_nil,List.append_assoc]
 congr 1
 rw [List.drop_eq_getElem_cons h]
 rfl
theorem mkp_end {k:Int} {a:List Int} {i:Nat} (h:¬ i<a.length) (hi:i≤a.length):mkp k a i=mks k a.length:=by
 have:i=a.length:=by omega
 subst this
 simp [mkp,mks]
def c_laws_markInt64S:C := (.seq (.ops [] [⟨none,.asg 2 (.i 0)⟩] []) (.seq (.seq (.ops [] [⟨none,.asg 3 (.i 0)⟩] []) (.block 0 (.loop (.seq (.opc [] [⟨none,.mv (.v 3)⟩,⟨none,.mv (.v 0)⟩,⟨none,.len (.t 1)⟩,⟨none,.bin .lss (.t 0) (.t 2)⟩] [] (.t 3) .skip (.exit 0)) (.seq (.block 1 (.seq (.ops [] [⟨none,.mv (.v 0)⟩,⟨none,.mv (.v 3)⟩,⟨none,.mv (.v 1)⟩,⟨none,.idxA 1 (.t 0) (.t 1)⟩,⟨none,.st (.t 3) (.t 2)⟩] []) (.ops [] [⟨none,.mv (.v 1)⟩,⟨none,.bin .add (.t 0) (.i 1)⟩,⟨none,.asg 1 (.t 1)⟩] []))) (.ops [] [⟨none,.mv (.v 3)⟩,⟨none,.bin .add (.t 0) (.i 1)⟩,⟨none,.asg 3 (.t 1)⟩] [])))))) (.seq (.ops [] [⟨none,.mv (.v 1)⟩,⟨none,.asg 2 (.t 0)⟩] []) .ret)))
def tr_laws_markInt64S:List Nat:=[0,1,4,5]
def rs_laws_markInt64S:List RS:=[.t 2]
theorem ok_laws_markInt64S:fnOk Go.Proofs.Tryz.prog Go.Proofs.Tryz.f11 tr_laws_markInt64S c_laws_markInt64S 2 rs_laws_markInt64S=true:=by decide +kernel
theorem ret_laws_markInt64S (a:List Int) (k:Int) (h0 : 0≤k) (h1:k+a.length≤4611686018427387900):Ret Go.Proofs.Tryz.prog 11 [.io (.o (ints a)) (.o (ints (mks k a.length))),.v (.int .i64 k)] (.int .i64 (k+a.length)):=by
 refine ret_wf fun hw=>?_
 simp only [argsWf,wfd_lst] at hw
 have hm:a.length≤maxLen:=hw.1.1
 refine ret_fn Go.Proofs.Tryz.func11 ok_laws_markInt64S rfl (show 2<500 by decide) rfl ?_;unfold c_laws_markInt64S tr_laws_markInt64S rs_laws_markInt64S;simp only [go_sem,Nat.reduceLT,Nat.reduceAdd,Nat.reduceBEq,Nat.reduceLeDiff,↓reduceIte]
 refine loop_set [] (fun (i:Nat)=>[(1,.int .i64 (k+i)),(3,.int .i64 i),(4,.o (ints (mkp k a i)))]) (fun i=>i≤a.length) (fun i=>a.length-i) 0 (by simp only [go_sem];rfl) (Nat.zero_le _) ?_ ?_
 ·simp only [go_sem,mkp_zero];simp
 rintro i hi
 simp only [go_sem,Nat.reduceLT,Nat.reduceAdd,Nat.reduceSub,Nat.reduceBEq,Nat.reduceLeDiff,↓reduceIte]
 rw [mkp_len hi]
 refine ⟨fun h=>⟨h,h,i+1,by omega,by omega,?_⟩,fun h=>⟨by rw [show i=a.length by omega],by rw [mkp_end h hi]⟩⟩
 rw [mkp_set h,wrap_lt h hm,wrap_small (by omega) (by omega)]
 simp only [Int.natCast_add,Int.natCast_one,Int.add_assoc]
def cost2 (a:List (List Int)):Nat→Nat
 | 0=>0
 | i+1=>cost2 a i+(a.getD i []).length
def mkpp (k:Int) (a:List (List Int)) (i:Nat):List (List Int):=((List.range i).map fun j=>mks (k+cost2 a j) (a.getD j []).length)++a.drop i
def mkss (k:Int) (a:List (List Int)):List (List Int):=(List.range a.length).map fun j=>mks (k+cost2 a j) (a.getD j []).length
theorem mkpp_zero {k:Int} {a:List (List Int)}:mkpp k a 0=a:=by simp [mkpp]
theorem mkpp_len {k:Int} {a:List (List Int)} {i:Nat} (h:i≤a.length):(mkpp k a i).length=a.length:=by simp [mkpp];omega
theorem mkpp_get {k:Int} {a:List (List Int)} {i:Nat} (_:i<a.length):(mkpp k a i).getD i []=a.getD i []:=by
 unfold mkpp
 rw [List.getD_eq_getElem?_getD,List.getElem?_append_right (by simp),List.length_map,List.length_range,Nat.sub_self,List.getElem?_drop,Nat.add_zero,← List.getD_eq_getElem?_getD]
theorem mkpp_set {k:Int} {a:List (List Int)} {i:Nat} (h:i<a.length):(mkpp k a i).set i (mks (k+cost2 a i) (a.getD i []).length)=mkpp k a (i+1):=by
 unfold mkpp
 rw [List.set_append_right _ _ (by simp),List.range_succ,List.map_append]
 simp only [List.length_map,List.length_range,Nat.sub_self,List.map_cons,List.map_nil,List.append_assoc]
 congr 1
 rw [List.drop_eq_getElem_cons h]
 rfl
theorem mkpp_end {k:Int} {a:List (List Int)} {i:Nat} (h:¬ i<a.length) (hi:i≤a.length):mkpp k a i=mkss k a:=by
 have:i=a.length:=by omega
 subst this
 simp [mkpp,mkss]
theorem cost2_mono {a:List (List Int)} {i j:Nat} (h:i≤j):cost2 a i≤cost2 a j:=by
 induction h with
 | refl=>exact Nat.le_refl _
 | step _ ih=>exact Nat.le_trans ih (Nat.le_add_right _ _)
theorem set_hole {L:List D} {i:Nat} {z y:D} (hz:z.isAgg=false):(L.set i .dead).set i (setc ((L.set i .dead).getD i z) 0 y)=L.set i y:=by
 have:setc ((L.set i .dead).getD i z) 0 y=y:=by
  rw [List.getD_eq_getElem?_getD]
  by_cases h:i<L.length
  ·rw [List.getElem?_set_self h];rfl
  ·rw [List.getElem?_eq_none (by simpa using h)]
   simp only [Option.getD_none]
   cases z<;>first | rfl | cases hz
 rw [this,List.set_set]
def c_laws_markInt64SS:C := (.seq (.ops [] [⟨none,.asg 2 (.i 0)⟩] []) (.seq (.seq (.ops [] [⟨none,.asg 3 (.i 0)⟩] []) (.block 0 (.loop (.seq (.opc [] [⟨none,.mv (.v 3)⟩,⟨none,.mv (.v 0)⟩,⟨none,.len (.t 1)⟩,⟨none,.bin .lss (.t 0) (.t 2)⟩] [] (.t 3) .skip (.exit 0)) (.seq (.block 1 (.ops [] [⟨none,.mv (.v 0)⟩,⟨none,.mv (.v 3)⟩,⟨none,.idxA 1 (.t 0) (.t 1)⟩,⟨none,.ld (.t 2)⟩,⟨none,.mv (.v 1)⟩,⟨none,.calle 11 [(.t 3),(.t 4)]⟩,⟨none,.asg 1 (.t 5)⟩] [])) (.ops [] [⟨none,.mv (.v 3)⟩,⟨none,.bin .add (.t 0) (.i 1)⟩,⟨none,.asg 3 (.t 1)⟩] [])))))) (.seq (.ops [] [⟨none,.mv (.v 1)⟩,⟨none,.asg 2 (.t 0)⟩] []) .ret)))
def tr_laws_markInt64SS:List Nat:=[0,1,4,5]
def rs_laws_markInt64SS:List RS:=[.t 2]
theorem ok_laws_markInt64SS:fnOk Go.Proofs.Tryz.prog Go.Proofs.Tryz.f12 tr_laws_markInt64SS c_laws_markInt64SS 2 rs_laws_markInt64SS=true:=by decide +kernel
theorem ret_laws_markInt64SS (a:List (List Int)) (k:Int) (h0 : 0≤k) (h1:k+cost2 a a.length≤4611686018427387900):Ret Go.Proofs.Tryz.prog 12 [.io (.o (intss a)) (.o (intss (mkss k a))),.v (.int .i64 k)] (.int .i64 (k+cost2 a a.length)):=by
 refine ret_wf fun hw=>?_
 simp only [argsWf,wfd_lst] at hw
 have hm:a.length≤maxLen:=hw.1.1
 refine ret_fn Go.Proofs.Tryz.func12 ok_laws_markInt64SS rfl (show 2<500 by decide) rfl ?_;unfold c_laws_markInt64SS tr_laws_markInt64SS rs_laws_markInt64SS;simp only [go_sem,Nat.reduceLT,Nat.reduceAdd,Nat.reduceBEq,Nat.reduceLeDiff,↓reduceIte]
 refine loop_set [] (fun (i:Nat)=>[(1,.int .i64 (k+cost2 a i)),(3,.int .i64 i),(4,.o (intss (mkpp k a i)))]) (fun i=>i≤a.length) (fun i=>a.length-i) 0 (by simp only [go_sem];rfl) (Nat.zero_le _) ?_ ?_
 ·simp only [go_sem,mkpp_zero,cost2];simp
 rintro i hi
 simp only [go_sem,Nat.reduceLT,Nat.reduceAdd,Nat.reduceSub,Nat.reduceBEq,Nat.reduceLeDiff,↓reduceIte]
 rw [mkpp_len hi]
 refine ⟨fun h=>⟨h,?_⟩,fun h=>⟨by rw [show i=a.length by omega],by rw [mkpp_end h hi]⟩⟩
 have hc:cost2 a (i+1)≤cost2 a a.length:=cost2_mono h
 simp only [cost2] at hc
 refine io_part (ret_laws_markInt64S (a.getD i []) (k+cost2 a i) (by omega) (by omega)) (by trivial) ?_
 simp only [go_sem,Nat.reduceLT,Nat.reduceAdd,Nat.reduceSub,Nat.reduceBEq,Nat.reduceLeDiff,↓reduceIte]
 refine ⟨_,ints (mks (k+cost2 a i) (a.getD i []).length),rfl,?_,rfl,i+1,by omega,by omega,?_⟩
 ·rw [mkpp_get h]
 ·rw [set_hole rfl,lst_fold,mkpp_set h,wrap_lt h hm]
  simp only [cost2,Int.natCast_add,Int.add_assoc]
theorem mks_len {k:Int} {n:Nat}:(mks k n).length=n:=by simp [mks]
theorem mks_get {k:Int} {n i:Nat} (h:i<n):(mks k n).getD i 0=k+i:=by
 unfold mks
 rw [List.getD_eq_getElem?_getD,List.getElem?_map,List.getElem?_range h];rfl
def c_laws_heldInt64S:C := (.seq (.ops [] [⟨none,.asg 2 (.i 0)⟩] []) (.seq (.seq (.ops [] [⟨none,.asg 3 (.i 0)⟩] []) (.block 0 (.loop (.seq (.opc [] [⟨none,.mv (.v 3)⟩,⟨none,.mv (.v 0)⟩,⟨none,.len (.t 1)⟩,⟨none,.bin .lss (.t 0) (.t 2)⟩] [] (.t 3) .skip (.exit 0)) (.seq (.block 1 (.seq (.opc [] [⟨none,.mv (.v 0)⟩,⟨none,.mv (.v 3)⟩,⟨none,.idxA 1 (.t 0) (.t 1)⟩,⟨none,.ld (.t 2)⟩,⟨none,.mv (.v 1)⟩,⟨none,.bin .neq (.t 3) (.t 4)⟩] [] (.t 5) (.seq (.ops [] [⟨none,.asg 2 (.i (-1))⟩] []) .ret) .skip) (.ops [] [⟨none,.mv (.v 1)⟩,⟨none,.bin .add (.t 0) (.i 1)⟩,⟨none,.asg 1 (.t 1)⟩] []))) (.ops [] [⟨none,.mv (.v 3)⟩,⟨none,.bin .add (.t 0) (.i 1)⟩,⟨none,.asg 3 (.t 1)⟩] [])))))) (.seq (.ops [] [⟨none,.mv (.v 1)⟩,⟨none,.asg 2 (.t 0)⟩] []) .ret)))
def tr_laws_heldInt64S:List Nat:=[0,1,4,5]
def rs_laws_heldInt64S:List RS:=[.t 2]
theorem ok_laws_heldInt64S:fnOk Go.Proofs.Tryz.prog Go.Proofs.Tryz.f13 tr_laws_heldInt64S c_laws_heldInt64S 2 rs_laws_heldInt64S=true:=by decide +kernel
theorem ret_laws_heldInt64S (n:Nat) (k:Int) (h0 : 0≤k) (h1:k+n≤4611686018427387900):Ret Go.Proofs.Tryz.prog 13 [.v (ints (mks k n)),.v (.int .i64 k)] (.int .i64 (k+n)):=by
 refine ret_wf fun hw=>?_
 simp only [argsWf,wfd_lst,mks_len] at hw
 have hm:n≤maxLen:=hw.1.1
 refine ret_fn Go.Proofs.Tryz.func13 ok_laws_heldInt64S rfl (show 2<500 by decide) rfl ?_;unfold c_laws_heldInt64S tr_laws_heldInt64S rs_laws_heldInt64S;simp only [go_sem,Nat.reduceLT,Nat.reduceAdd,↓reduceIte]
 refine loop_set [] (fun (i:Nat)=>[(1,.int .i64 (k+i)),(3,.int .i64 i)]) (fun i=>i≤n) (fun i=>n-i) 0 (by simp only [go_sem];rfl) (Nat.zero_le _) ?_ ?_
 ·simp only [go_sem];simp
 rintro i hi
 simp only [go_sem,Nat.reduceLT,Nat.reduceAdd,Nat.reduceSub,↓reduceIte]
 simp only [mks_len]
 refine ⟨fun h=>⟨h,?_⟩,fun h=>by rw [show i=n by omega]⟩
 rw [mks_get h]
 refine ⟨fun hh=>by simp at hh,fun _=>⟨i+1,by omega,by omega,?_⟩⟩
 rw [wrap_lt h hm,wrap_small (by omega) (by omega)]
 simp only [Int.natCast_add,Int.natCast_one,Int.add_assoc]
theorem mkss_len {k:Int} {a:List (List Int)}:(mkss k a).length=a.length:=by simp [mkss]
theorem mkss_get {k:Int} {a:List (List Int)} {i:Nat} (h:i<a.length):(mkss k a).getD i []=mks (k+cost2 a i) (a.getD i []).length:=by
 unfold mkss
 rw [List.getD_eq_getElem?_getD,List.getElem?_map,List.getElem?_range h];rfl
def c_laws_heldInt64SS:C := (.seq (.ops [] [⟨none,.asg 2 (.i 0)⟩] []) (.seq (.seq (.ops [] [⟨none,.asg 3 (.i 0)⟩] []) (.block 0 (.loop (.seq (.opc [] [⟨none,.mv (.v 3)⟩,⟨none,.mv (.v 0)⟩,⟨none,.len (.t 1)⟩,⟨none,.bin .lss (.t 0) (.t 2)⟩] [] (.t 3) .skip (.exit 0)) (.seq (.block 1 (.seq (.ops [] [⟨none,.mv (.v 0)⟩,⟨none,.mv (.v 3)⟩,⟨none,.idxA 1 (.t 0) (.t 1)⟩,⟨none,.ld (.t 2)⟩,⟨none,.mv (.v 1)⟩,⟨none,.call 13 [(.t 3),(.t 4)]⟩,⟨none,.asg 1 (.t 5)⟩] []) (.opc [] [⟨none,.mv (.v 1)⟩,⟨none,.bin .lss (.t 0) (.i 0)⟩] [] (.t 1) (.seq (.ops [] [⟨none,.asg 2 (.i (-1))⟩] []) .ret) .skip))) (.ops [] [⟨none,.mv (.v 3)⟩,⟨none,.bin .add (.t 0) (.i 1)⟩,⟨none,.asg 3 (.t 1)⟩] [])))))) (.seq (.ops [] [⟨none,.mv (.v 1)⟩,⟨none,.asg 2 (.t 0)⟩] []) .ret)))
def tr_laws_heldInt64SS:List Nat:=[0,1,4,5]
def rs_laws_heldInt64SS:List RS:=[.t 2]
theorem ok_laws_heldInt64SS:fnOk Go.Proofs.Tryz.prog Go.Proofs.Tryz.f14 tr_laws_heldInt64SS c_laws_heldInt64SS 2 rs_laws_heldInt64SS=true:=by decide +kernel
theorem ret_laws_heldInt64SS (a:List (List Int)) (k:Int) (h0 : 0≤k) (h1:k+cost2 a a.length≤4611686018427387900):Ret Go.Proofs.Tryz.prog 14 [.v (intss (mkss k a)),.v (.int .i64 k)] (.int .i64 (k+cost2 a a.length)):=by
 refine ret_wf fun hw=>?_
 simp only [argsWf,wfd_lst,mkss_len] at hw
 have hm:a.length≤maxLen:=hw.1.1
 refine ret_fn Go.Proofs.Tryz.func14 ok_laws_heldInt64SS rfl (show 2<500 by decide) rfl ?_;unfold c_laws_heldInt64SS tr_laws_heldInt64SS rs_laws_heldInt64SS;simp only [go_sem,Nat.reduceLT,Nat.reduceAdd,↓reduceIte]
 refine loop_set [] (fun (i:Nat)=>[(1,.int .i64 (k+cost2 a i)),(3,.int .i64 i)]) (fun i=>i≤a.length) (fun i=>a.length-i) 0 (by simp only [go_sem];rfl) (Nat.zero_le _) ?_ ?_
 ·simp only [go_sem,cost2];simp
 rintro i hi
 simp only [go_sem,Nat.reduceLT,Nat.reduceAdd,Nat.reduceSub,↓reduceIte]
 simp only [mkss_len]
 refine ⟨fun h=>⟨h,?_⟩,fun h=>by rw [show i=a.length by omega]⟩
 rw [mkss_get h]
 have hc:cost2 a (i+1)≤cost2 a a.length:=cost2_mono h
 simp only [cost2] at hc
 refine call_of (ret_laws_heldInt64S (a.getD i []).length (k+cost2 a i) (by omega) (by omega)) rfl (.inl rfl) ?_
 simp only [go_sem,Nat.reduceLT,Nat.reduceAdd,Nat.reduceSub,↓reduceIte]
 refine ⟨fun hh=>by omega,fun _=>⟨i+1,by omega,by omega,?_⟩⟩
 rw [wrap_lt h hm]
 simp only [cost2,Int.natCast_add,Int.add_assoc]
end Go.D3
namespace Go.D3
open Go
def consH (b:UInt8):List (List UInt8)→List (List UInt8)
 | x::l=>(b::x)::l
 | []=>[[b]]
def preH (s:List UInt8):List (List UInt8)→List (List UInt8)
 | x::l=>(s++x)::l
 | []=>[s]
def spl (p:List UInt8):Nat→List UInt8→List (List UInt8)
 | _,[]=>[[]]
 | k+1,_::r=>spl p k r
 | 0,b::r=>if p.isPrefixOf (b::r)=true then []::spl p (p.length-1) r else consH b (spl p 0 r)
theorem spl_nil {p:List UInt8} {k:Nat}:spl p k []=[[]]:=by cases k<;>rfl
theorem spl_ne {p:List UInt8}:∀ {k:Nat} {s:List UInt8},spl p k s≠[]
 | k,[]=>by rw [spl_nil];simp
 | k+1,_::r=>by rw [spl];exact spl_ne
 | 0,b::r=>by
  rw [spl]
  split
  ·simp
  ·cases spl p 0 r<;>simp [consH]
theorem spl_skip {p:List UInt8}:∀ {k:Nat} {s:List UInt8},k≤s.length→spl p k s=spl p 0 (s.drop k)
 | 0,_,_=>rfl
 | k+1,[],h=>by simp at h
 | k+1,_::r,h=>by rw [spl,List.drop_succ_cons];exact spl_skip (by simpa using h)
theorem pre_len {p s:List UInt8} (h:p.isPrefixOf s=true):p.length≤s.length:=(List.isPrefixOf_iff_prefix.1 h).length_le
theorem spl_hit {p s:List UInt8} (hp:p≠[]) (h:p.isPrefixOf s=true):spl p 0 s=[]::spl p 0 (s.drop p.length):=by
 have hl:=pre_len h
 cases s with
 | nil=>cases p with
  | nil=>exact absurd rfl hp
  | cons c q=>simp at hl
 | cons b r =>
  cases p with
  | nil=>exact absurd rfl hp
  | cons c q =>
   rw [spl,if_pos h,spl_skip (by simpa using hl)]
   simp
theorem spl_miss {p r:List UInt8} {b:UInt8} (h:p.isPrefixOf (b::r)=false):spl p 0 (b::r)=consH b (spl p 0 r):=by
 rw [spl,if_neg (by rw [h];simp)]
theorem preH_nil {l:List (List UInt8)} (h:l≠[]):preH [] l=l:=by cases l<;>simp_all [preH]
theorem preH_cons {s:List UInt8} {b:UInt8} {l:List (List UInt8)}:preH s (consH b l)=preH (s++[b]) l:=by cases l<;>simp [preH,consH]
theorem spl_short {p:List UInt8}:∀ {s:List UInt8},s.length<p.length→spl p 0 s=[s]
 | [],_=>spl_nil
 | b::r,h=>by
  have:p.isPrefixOf (b::r)=false:=by
   cases hc:p.isPrefixOf (b::r) with
   | false=>rfl
   | true=>have:=pre_len hc;omega
  rw [spl_miss this,spl_short (by simp only [List.length_cons] at h;omega)];rfl
theorem splitK_spl {p:List UInt8} (hp:p≠[]):∀ (n:Nat) {s:List UInt8},s.length≤n→Lib.splitK p 0 (Lib.count s p) s=spl p 0 s:=by
 intro n
 induction n with
 | zero =>
  intro s h
  have:s=[]:=List.length_eq_zero_iff.1 (by omega)
  subst this
  have hi:Lib.index [] p=-1:=by cases p with
   | nil=>exact absurd rfl hp
   | cons c q=>rfl
  rw [Lib.count_miss hi,spl_nil];rfl
 | succ n ih =>
  intro s h
  cases hc:p.isPrefixOf s with
  | true =>
   have hi:Lib.index s p=((0:Nat):Int):=by cases s with
    | nil=>cases p with
     | nil=>rfl
     | cons c q=>simp at hc
    | cons b r=>rw [Lib.index,hc];rfl
   have hl:=pre_len hc
   have hp1 : 1≤p.length:=by cases p<;>simp_all
   rw [Lib.count_hit hp hi,Nat.add_comm,Lib.splitK,if_neg (by rw [hi];decide),spl_hit hp hc,hi]
   simp only [Int.toNat_natCast,Nat.zero_add,Nat.add_zero,List.take_zero]
   rw [ih (by rw [List.length_drop];omega)]
  | false =>
   cases s with
   | nil =>
    have hi:Lib.index [] p=-1:=by cases p with
     | nil=>exact absurd rfl hp
     | cons c q=>rfl
    rw [Lib.count_miss hi,spl_nil];rfl
   | cons b r =>
    have hix:Lib.index (b::r) p=if Lib.index r p == -1 then -1 else Lib.index r p+1:=by rw [Lib.index,hc];simp
    rw [spl_miss hc,← ih (s:=r) (by simpa using h)]
    by_cases hm:Lib.index r p=-1
    ·rw [Lib.count_miss hm,Lib.count_miss (by rw [hix,if_pos (beq_iff_eq.2 hm)])];rfl
    ·have hge:=Lib.index_ge r p
     obtain ⟨j,hj⟩:∃ j:Nat,Lib.index r p=j:=⟨(Lib.index r p).toNat,by omega⟩
     have hix':Lib.index (b::r) p=((j+1:Nat):Int):=by rw [hix,if_neg (fun e=>hm (beq_iff_eq.1 e)),hj];rfl
     rw [Lib.count_hit hp hj,Lib.count_hit hp hix',Nat.add_comm 1,Nat.add_comm 1,Lib.splitK,Lib.splitK,if_neg (by rw [hix'];simp;omega),if_neg (by rw [hj];simp),hix',hj]
     have e1:(b::r).drop (j+1+p.length)=r.drop (j+p.length):=by rw [show j+1+p.length=(j+p.length)+1 by omega,List.drop_succ_cons]
     simp only [Int.toNat_natCast,e1,Nat.add_zero,List.take_succ_cons,consH]
theorem spl_app {p:List UInt8} (hp:p≠[]) {r:List UInt8}:∀ {a:List UInt8},(∀ i,i<a.length→p.isPrefixOf ((a++p++r).drop i)=false)→spl p 0 (a++p++r)=a::spl p 0 r
 | [],_=>by
  rw [List.nil_append,spl_hit hp (List.isPrefixOf_iff_prefix.2 (List.prefix_append _ _)),List.drop_left]
 | b::a,h=>by
  have h0:=h 0 (by simp)
  have:=spl_app hp (r:=r) (a:=a) fun i hi=>by have:=h (i+1) (by simp;omega);simpa using this
  rw [List.cons_append,List.cons_append,spl_miss (by simpa using h0),this];rfl
theorem spl_end {p:List UInt8}:∀ {a:List UInt8},(∀ i,i<a.length→p.isPrefixOf (a.drop i)=false)→spl p 0 a=[a]
 | [],_=>spl_nil
 | b::a,h=>by
  have h0:=h 0 (by simp)
  have:=spl_end (p:=p) (a:=a) fun i hi=>by have:=h (i+1) (by simp;omega);simpa using this
  rw [spl_miss (by simpa using h0),this];rfl
theorem pre_one {c:UInt8} {s:List UInt8}:[c].isPrefixOf s=(s.head? == some c):=by
 cases s<;>simp [List.isPrefixOf,Bool.beq_comm]
theorem spl1_app {c:UInt8} {a r:List UInt8} (h:c ∉ a):spl [c] 0 (a++[c]++r)=a::spl [c] 0 r:=by
 refine spl_app (by simp) fun i hi=>?_
 rw [pre_one,List.append_assoc,List.drop_append_of_le_length (by omega),List.drop_eq_getElem_cons hi]
 simp only [List.cons_append,List.head?_cons]
 rw [Bool.eq_false_iff]
 intro hh
 simp only [beq_iff_eq,Option.some.injEq] at hh
 exact h (hh▸List.getElem_mem hi)
theorem spl1_end {c:UInt8} {a:List UInt8} (h:c ∉ a):spl [c] 0 a=[a]:=by
 refine spl_end fun i hi=>?_
 rw [pre_one,List.drop_eq_getElem_cons hi,List.head?_cons,Bool.eq_false_iff]
 intro hh
 simp only [beq_iff_eq,Option.some.injEq] at hh
 exact h (hh▸List.getElem_mem hi)
theorem spl3_app {x c y:UInt8} {a r:List UInt8} (hx:x≠c) (h:c ∉ a):spl [x,c,y] 0 (a++[x,c,y]++r)=a::spl [x,c,y] 0 r:=by
 refine spl_app (by simp) fun i hi=>?_
 rw [Bool.eq_false_iff]
 intro hh
 obtain ⟨t,ht⟩:=List.isPrefixOf_iff_prefix.1 hh
 have h1:((a++[x,c,y]++r).drop i)[1]?=some c:=by rw [← ht];rfl
 rw [List.getElem?_drop,List.append_assoc] at h1
 by_cases hl:i+1<a.length
 ·rw [List.getElem?_append_left hl,List.getElem?_eq_getElem hl] at h1
  exact h (by injection h1 with h1;rw [← h1];exact List.getElem_mem _)
 ·rw [List.getElem?_append_right (by omega),show i+1-a.length=0 by omega] at h1
  exact hx (by simpa using h1)
theorem spl3_end {x c y:UInt8} {a:List UInt8} (h:c ∉ a):spl [x,c,y] 0 a=[a]:=by
 refine spl_end fun i hi=>?_
 rw [Bool.eq_false_iff]
 intro hh
 obtain ⟨t,ht⟩:=List.isPrefixOf_iff_prefix.1 hh
 have h1:(a.drop i)[1]?=some c:=by rw [← ht];rfl
 rw [List.getElem?_drop] at h1
 exact h (List.mem_of_getElem? h1)
theorem join_two {x y sep:List UInt8} {l:List (List UInt8)}:Lib.join (x::y::l) sep=x++sep++Lib.join (y::l) sep:=by
 rw [Lib.join_cons,Lib.join_cons];unfold Lib.joinTail;simp
theorem spl_join {c:UInt8}:∀ {l:List (List UInt8)},l≠[]→(∀ x∈l,c ∉ x)→spl [c] 0 (Lib.join l [c])=l
 | [],h,_=>absurd rfl h
 | [x],_,h=>by rw [Lib.join_one];exact spl1_end (h x (by simp))
 | x::y::l,_,h=>by
  rw [join_two,spl1_app (h x (by simp)),spl_join (by simp) fun z hz=>h z (List.mem_cons_of_mem _ hz)]
theorem spl_len {p:List UInt8}:∀ {k:Nat} {s:List UInt8},(spl p k s).length≤s.length+1
 | k,[]=>by rw [spl_nil];simp
 | k+1,_::r=>by rw [spl];have:=spl_len (p:=p) (k:=k) (s:=r);simp;omega
 | 0,b::r=>by
  rw [spl]
  have h1:=spl_len (p:=p) (k:=p.length-1) (s:=r)
  have h2:=spl_len (p:=p) (k:=0) (s:=r)
  split
  ·simp;omega
  ·cases hh:spl p 0 r with
   | nil=>simp [consH]
   | cons x l=>rw [hh] at h2;simp [consH] at h2 ⊢;omega
theorem spl_mem {p:List UInt8}:∀ {k:Nat} {s x:List UInt8},x∈spl p k s→x.length≤s.length
 | k,[],x,h=>by rw [spl_nil] at h;simp at h;subst h;simp
 | k+1,_::r,x,h=>by rw [spl] at h;have:=spl_mem h;simp;omega
 | 0,b::r,x,h=>by
  rw [spl] at h
  split at h
  ·rcases List.mem_cons.1 h with rfl | h
   ·simp
   ·have:=spl_mem h;simp;omega
  ·cases hh:spl p 0 r with
   | nil=>exact absurd hh spl_ne
   | cons y l =>
    rw [hh] at h
    rcases List.mem_cons.1 h with rfl | h
    ·have:=spl_mem (p:=p) (k:=0) (s:=r) (x:=y) (by rw [hh];simp);simp;omega
    ·have:=spl_mem (p:=p) (k:=0) (s:=r) (x:=x) (by rw [hh];simp [h]);simp;omega
end Go.D3
namespace Go.D3
open Go
set_option maxRecDepth 100000
attribute [go_sem] bytesOf.eq_1 bytesOf.eq_2
theorem dec_len (n:Nat) (h:n<18446744073709551616):(Lib.decDigits n).length≤20:=by rw [Lib.decDigits_length];exact Lib.nDigits_le20 n h
theorem dec_ge {n:Nat} (h:¬ n<10):Lib.decDigits n=Lib.decDigits (n / 10)++[UInt8.ofNat (48+n % 10)]:=by rw [Lib.decDigits,dif_neg h]
theorem dig_wrap {m:Nat} (h:m<10):(IntKind.u8.wrap (IntKind.i64.wrap (48+(m:Int)))).toNat=48+m:=by
 rw [wrap_small (by omega) (by omega),wrap_of_has ⟨by simp [IntKind.min,IntKind.signed];omega,by simp [IntKind.max,IntKind.signed,IntKind.bits];omega⟩]
 omega
def c_spec_l01Dec:C := (.seq (.ops [] [⟨none,.asg 1 (.k (.str []))⟩] []) (.seq (.opc [] [⟨none,.mv (.v 0)⟩,⟨none,.bin .lss (.t 0) (.i 10)⟩] [] (.t 1) (.seq (.ops [] [⟨none,.mv (.v 0)⟩,⟨none,.bin .add (.i 48) (.t 0)⟩,⟨none,.conv .u8 (.t 1)⟩,⟨none,.bldS (.int .u8 0) 1 [(0,(.t 2))]⟩,⟨none,.cvS (.t 3)⟩,⟨none,.asg 1 (.t 4)⟩] []) .ret) .skip) (.seq (.ops [] [⟨none,.mv (.v 0)⟩,⟨none,.bin .quo (.t 0) (.i 10)⟩,⟨none,.call 43 [(.t 1)]⟩,⟨none,.mv (.v 0)⟩,⟨none,.bin .rem (.t 3) (.i 10)⟩,⟨none,.bin .add (.i 48) (.t 4)⟩,⟨none,.conv .u8 (.t 5)⟩,⟨none,.bldS (.int .u8 0) 1 [(0,(.t 6))]⟩,⟨none,.cvS (.t 7)⟩,⟨none,.bin .add (.t 2) (.t 8)⟩,⟨none,.asg 1 (.t 9)⟩] []) .ret)))
def tr_spec_l01Dec:List Nat:=[0,2]
def rs_spec_l01Dec:List RS:=[.t 1]
theorem ok_spec_l01Dec:fnOk Go.Proofs.Tryz.prog Go.Proofs.Tryz.f43 tr_spec_l01Dec c_spec_l01Dec 1 rs_spec_l01Dec=true:=by decide +kernel
theorem ret_spec_l01Dec (n:Nat) (hn:n≤4611686018427387900):Ret Go.Proofs.Tryz.prog 43 [.v (.int .i64 n)] (.str (Lib.decDigits n)):=by
 induction n using Nat.strongRecOn with
 | _ n ih =>
  refine ret_fn Go.Proofs.Tryz.func43 ok_spec_l01Dec rfl (show 1<500 by decide) rfl ?_;unfold c_spec_l01Dec tr_spec_l01Dec rs_spec_l01Dec;simp only [go_sem,Nat.reduceLT,Nat.reduceAdd,Nat.reduceSub,↓reduceIte]
  refine ⟨fun h=>?_,fun h=>?_⟩
  ·have h:n<10:=by omega
   rw [dig_wrap h,Lib.decDigits_one h]
  ·have h:¬ n<10:=by omega
   have e1:IntKind.i64.wrap ((n:Int).tdiv 10)=((n / 10:Nat):Int):=by
    rw [Int.tdiv_eq_ediv_of_nonneg (by omega),wrap_small (by omega) (by omega)];rfl
   rw [e1]
   refine ⟨by decide,call_of (ih (n / 10) (by omega) (by omega)) rfl (.inl rfl) ?_⟩
   simp only [go_sem,Nat.reduceLT,Nat.reduceAdd,Nat.reduceSub,↓reduceIte]
   have e2:((n:Int).tmod 10)=((n % 10:Nat):Int):=by rw [Int.tmod_eq_emod_of_nonneg (by omega)];rfl
   rw [e2,dig_wrap (by omega)]
   have:=dec_len (n / 10) (by omega)
   refine ⟨by decide,by simp only [maxLen];omega,?_⟩
   rw [dec_ge h]
end Go.D3
namespace Go.D3
open Go
set_option maxRecDepth 100000
theorem seg_snoc {s:List UInt8} {at' i:Nat} (h:at'≤i) (hi:i<s.length):(s.take i).drop at'++[s.getD i 0]=(s.take (i+1)).drop at':=by
 rw [getD_lt hi,List.take_succ_eq_append_getElem hi,List.drop_append_of_le_length (by rw [List.length_take];omega)]
theorem seg_nil {s:List UInt8} {i j:Nat} (h:i≤j):(s.take i).drop j=[]:=List.drop_eq_nil_of_le (by rw [List.length_take];omega)
theorem drop_cons {s:List UInt8} {i:Nat} (hi:i<s.length):s.drop i=s.getD i 0::s.drop (i+1):=by rw [List.drop_eq_getElem_cons hi,getD_lt hi]
def splAt (p s:List UInt8) (i a:Nat):List (List UInt8):=if a≤i then preH ((s.take i).drop a) (spl p 0 (s.drop i)) else spl p (a-i) (s.drop i)
theorem splAt_start {p s:List UInt8} {i:Nat}:splAt p s i i=spl p 0 (s.drop i):=by unfold splAt;rw [if_pos (Nat.le_refl _),seg_nil (Nat.le_refl _),preH_nil spl_ne]
theorem splAt_hit {p s:List UInt8} {i a:Nat} (hp : 0<p.length) (hi:i<s.length) (ha:a≤i) (h:p.isPrefixOf (s.drop i)=true):splAt p s i a=(s.take i).drop a::splAt p s (i+1) (i+p.length):=by
 unfold splAt
 rw [if_pos ha,drop_cons hi,spl,if_pos (by rw [← drop_cons hi];exact h),preH,List.append_nil]
 congr 1
 by_cases h1:i+p.length≤i+1
 ·rw [if_pos h1,seg_nil (by omega),preH_nil spl_ne,show p.length-1=0 by omega]
 ·rw [if_neg h1,show i+p.length-(i+1)=p.length-1 by omega]
theorem splAt_miss {p s:List UInt8} {i a:Nat} (hi:i<s.length) (h:a≤i→p.isPrefixOf (s.drop i)=false):splAt p s i a=splAt p s (i+1) a:=by
 unfold splAt
 by_cases ha:a≤i
 ·rw [if_pos ha,if_pos (by omega),drop_cons hi,spl_miss (by rw [← drop_cons hi];exact h ha),preH_cons,seg_snoc ha hi]
 ·rw [if_neg ha,drop_cons hi,show a-i=(a-i-1)+1 by omega,spl]
  by_cases h1:a≤i+1
  ·rw [if_pos h1,seg_nil (by omega),preH_nil spl_ne,show a-i-1=0 by omega]
  ·rw [if_neg h1,show a-(i+1)=a-i-1 by omega]
theorem splAt_end {p s:List UInt8} {i a:Nat} (hi:i≤s.length) (ha:a≤s.length) (h:s.length<i+p.length):splAt p s i a=[s.drop a]:=by
 unfold splAt
 by_cases h1:a≤i
 ·rw [if_pos h1,spl_short (by rw [List.length_drop];omega),preH,← List.drop_append_of_le_length (by rw [List.length_take];omega),List.take_append_drop]
 ·rw [if_neg h1,spl_skip (by rw [List.length_drop];omega),List.drop_drop,show i+(a-i)=a by omega,spl_short (by rw [List.length_drop];omega)]
def c_spec_l01Split:C := (.seq (.ops [] [⟨none,.asg 2 (.k (.nils (.str [])))⟩] []) (.seq (.ops [] [⟨none,.bldS (.str []) 0 []⟩,⟨none,.asg 3 (.t 0)⟩] []) (.seq (.ops [] [⟨none,.asg 4 (.i 0)⟩] []) (.seq (.seq (.ops [] [⟨none,.asg 5 (.i 0)⟩] []) (.block 0 (.loop (.seq (.opc [] [⟨none,.mv (.v 5)⟩,⟨none,.mv (.v 0)⟩,⟨none,.lenS (.t 1)⟩,⟨none,.bin .lss (.t 0) (.t 2)⟩] [] (.t 3) .skip (.exit 0)) (.seq (.block 1 (.opc [] [⟨none,.mv (.v 0)⟩,⟨none,.mv (.v 5)⟩,⟨none,.idxS (.t 0) (.t 1)⟩,⟨none,.mv (.v 1)⟩,⟨none,.bin .eql (.t 2) (.t 3)⟩] [] (.t 4) (.seq (.ops [] [⟨none,.mv (.v 3)⟩,⟨none,.mv (.v 0)⟩,⟨none,.mv (.v 4)⟩,⟨none,.mv (.v 5)⟩,⟨none,.slS (.t 1) (some (.t 2)) (some (.t 3))⟩,⟨none,.bldS (.str []) 1 [(0,(.t 4))]⟩,⟨none,.app 1 16 (.t 0) (.t 5)⟩,⟨none,.asg 3 (.t 6)⟩] []) (.ops [] [⟨none,.mv (.v 5)⟩,⟨none,.bin .add (.t 0) (.i 1)⟩,⟨none,.asg 4 (.t 1)⟩] [])) .skip)) (.ops [] [⟨none,.mv (.v 5)⟩,⟨none,.bin .add (.t 0) (.i 1)⟩,⟨none,.asg 5 (.t 1)⟩] [])))))) (.seq (.ops [] [⟨none,.mv (.v 3)⟩,⟨none,.mv (.v 0)⟩,⟨none,.mv (.v 4)⟩,⟨none,.slS (.t 1) (some (.t 2)) none⟩,⟨none,.bldS (.str []) 1 [(0,(.t 3))]⟩,⟨none,.app 1 16 (.t 0) (.t 4)⟩,⟨none,.asg 2 (.t 5)⟩] []) .ret)))))
def tr_spec_l01Split:List Nat:=[0,1,4,5,6,7]
def rs_spec_l01Split:List RS:=[.t 2]
theorem ok_spec_l01Split:fnOk Go.Proofs.Tryz.prog Go.Proofs.Tryz.f59 tr_spec_l01Split c_spec_l01Split 2 rs_spec_l01Split=true:=by decide +kernel
theorem ret_spec_l01Split (s:List UInt8) (c:UInt8) (hs:s.length≤1099511627776):Ret Go.Proofs.Tryz.prog 59 [.v (.str s),.v (.int .u8 c.toNat)] (strs (spl [c] 0 s)):=by
 refine ret_fn Go.Proofs.Tryz.func59 ok_spec_l01Split rfl (show 2<500 by decide) rfl ?_;unfold c_spec_l01Split tr_spec_l01Split rs_spec_l01Split;simp only [go_sem,Nat.reduceLT,Nat.reduceAdd,Nat.reduceSub,↓reduceIte]
 refine loop_set [] (fun (p:Nat×Nat×List (List UInt8))=>[(3,.o (strs p.2.2)),(4,.int .i64 p.2.1),(5,.int .i64 p.1)]) (fun p=>p.1≤s.length∧p.2.1≤p.1∧p.2.2.length≤p.1∧p.2.2++splAt [c] s p.1 p.2.1=spl [c] 0 s) (fun p=>s.length-p.1) (0,0,[]) (by simp only [go_sem];rfl) ⟨Nat.zero_le _,Nat.zero_le _,Nat.zero_le _,by show splAt _ s 0 0=_;exact splAt_start⟩ rfl ?_
 rintro ⟨i,a,out⟩ ⟨hi,ha,ho,hr⟩
 simp only at hi ha ho hr
 simp only [go_sem,Nat.reduceLT,Nat.reduceAdd,Nat.reduceSub,Nat.reduceBEq,↓reduceIte]
 have hw:IntKind.i64.wrap ((i:Int)+1)=((i+1:Nat):Int):=by rw [wrap_small (by omega) (by omega)];rfl
 refine ⟨fun h=>⟨h,fun h1=>⟨by omega,by omega,(i+1,i+1,out++[(s.take i).drop a]),⟨h,Nat.le_refl _,by simp;omega,?_⟩,by show s.length-(i+1)<_;omega,by rw [hw]⟩,fun h1=>⟨(i+1,a,out),⟨h,by show a≤i+1;omega,by show out.length≤i+1;omega,?_⟩,by show s.length-(i+1)<_;omega,by rw [hw]⟩⟩,fun h=>⟨by omega,by omega,?_⟩⟩
 ·rw [← hr,splAt_hit (by simp) h ha (by rw [pre_one,drop_cons h,List.head?_cons];simp at h1 ⊢;exact UInt8.toNat_inj.1 (by omega)),List.append_assoc];rfl
 ·rw [← hr,splAt_miss h fun _=>by rw [pre_one,drop_cons h,List.head?_cons];simp at h1 ⊢;rintro rfl;exact h1 rfl]
 ·rw [← hr,splAt_end hi (by omega) (by simp;omega),List.take_of_length_le (Nat.le_refl _)]
theorem pre_three {x c y:UInt8} {l:List UInt8}:[x,c,y].isPrefixOf l=(l.take 3 == [x,c,y]):=by
 match l with
 | []=>rfl
 | [a]=>simp [List.isPrefixOf]
 | [a,b]=>simp [List.isPrefixOf]
 | a::b::d::r =>
  rw [Bool.eq_iff_iff];simp [List.isPrefixOf]
  exact ⟨fun h=>⟨h.1.symm,h.2.1.symm,h.2.2.symm⟩,fun h=>⟨h.1.symm,h.2.1.symm,h.2.2.symm⟩⟩
def c_spec_l04Parts:C := (.seq (.ops [] [⟨none,.asg 1 (.k (.nils (.str [])))⟩] []) (.seq (.ops [] [⟨none,.bldS (.str []) 0 []⟩,⟨none,.asg 2 (.t 0)⟩,⟨none,.asg 3 (.i 0)⟩] []) (.seq (.seq (.ops [] [⟨none,.asg 4 (.i 0)⟩] []) (.block 0 (.loop (.seq (.opc [] [⟨none,.mv (.v 4)⟩,⟨none,.bin .add (.t 0) (.i 3)⟩,⟨none,.mv (.v 0)⟩,⟨none,.lenS (.t 2)⟩,⟨none,.bin .leq (.t 1) (.t 3)⟩] [] (.t 4) .skip (.exit 0)) (.seq (.block 1 (.opc [] [⟨none,.mv (.v 0)⟩,⟨none,.mv (.v 4)⟩,⟨none,.mv (.v 4)⟩,⟨none,.bin .add (.t 2) (.i 3)⟩,⟨none,.slS (.t 0) (some (.t 1)) (some (.t 3))⟩,⟨none,.bin .eql (.t 4) (.k (.str [32,124,32]))⟩,⟨none,.mv (.t 5)⟩,⟨some (6,true),.mv (.v 4)⟩,⟨some (6,true),.mv (.v 3)⟩,⟨some (6,true),.bin .geq (.t 7) (.t 8)⟩,⟨none,.pick (.t 6) (.t 9) (.k (.bool false))⟩] [] (.t 10) (.seq (.ops [] [⟨none,.mv (.v 2)⟩,⟨none,.mv (.v 0)⟩,⟨none,.mv (.v 3)⟩,⟨none,.mv (.v 4)⟩,⟨none,.slS (.t 1) (some (.t 2)) (some (.t 3))⟩,⟨none,.bldS (.str []) 1 [(0,(.t 4))]⟩,⟨none,.app 1 16 (.t 0) (.t 5)⟩,⟨none,.asg 2 (.t 6)⟩] []) (.ops [] [⟨none,.mv (.v 4)⟩,⟨none,.bin .add (.t 0) (.i 3)⟩,⟨none,.asg 3 (.t 1)⟩] [])) .skip)) (.ops [] [⟨none,.mv (.v 4)⟩,⟨none,.bin .add (.t 0) (.i 1)⟩,⟨none,.asg 4 (.t 1)⟩] [])))))) (.seq (.ops [] [⟨none,.mv (.v 2)⟩,⟨none,.mv (.v 0)⟩,⟨none,.mv (.v 3)⟩,⟨none,.slS (.t 1) (some (.t 2)) none⟩,⟨none,.bldS (.str []) 1 [(0,(.t 3))]⟩,⟨none,.app 1 16 (.t 0) (.t 4)⟩,⟨none,.asg 1 (.t 5)⟩] []) .ret))))
def tr_spec_l04Parts:List Nat:=[0,2,3,4,5]
def rs_spec_l04Parts:List RS:=[.t 1]
theorem ok_spec_l04Parts:fnOk Go.Proofs.Tryz.prog Go.Proofs.Tryz.f77 tr_spec_l04Parts c_spec_l04Parts 1 rs_spec_l04Parts=true:=by decide +kernel
theorem ret_spec_l04Parts (s:List UInt8) (hs:s.length≤1099511627776):Ret Go.Proofs.Tryz.prog 77 [.v (.str s)] (strs (spl [32,124,32] 0 s)):=by
 refine ret_fn Go.Proofs.Tryz.func77 ok_spec_l04Parts rfl (show 1<500 by decide) rfl ?_;unfold c_spec_l04Parts tr_spec_l04Parts rs_spec_l04Parts;simp only [go_sem,Nat.reduceLT,Nat.reduceAdd,Nat.reduceSub,↓reduceIte]
 refine loop_set [] (fun (p:Nat×Nat×List (List UInt8))=>[(2,.o (strs p.2.2)),(3,.int .i64 p.2.1),(4,.int .i64 p.1)]) (fun p=>p.1≤s.length∧p.2.1≤p.1+2∧p.2.1≤s.length∧p.2.2.length≤p.1∧p.2.2++splAt [32,124,32] s p.1 p.2.1=spl [32,124,32] 0 s) (fun p=>s.length-p.1) (0,0,[]) (by simp only [go_sem];rfl) ⟨Nat.zero_le _,Nat.zero_le _,Nat.zero_le _,Nat.zero_le _,by show splAt _ s 0 0=_;exact splAt_start⟩ rfl ?_
 rintro ⟨i,a,out⟩ ⟨hi,ha,ha2,ho,hr⟩
 simp only at hi ha ha2 ho hr
 simp only [go_sem,Nat.reduceLT,Nat.reduceAdd,Nat.reduceSub,Nat.reduceBEq,↓reduceIte]
 have hw:IntKind.i64.wrap ((i:Int)+1)=((i+1:Nat):Int):=by rw [wrap_small (by omega) (by omega)];rfl
 have hw3:IntKind.i64.wrap ((i:Int)+3)=((i+3:Nat):Int):=by rw [wrap_small (by omega) (by omega)];rfl
 rw [hw3]
 have hsd:(s.take (i+3)).drop i=(s.drop i).take 3:=by rw [List.drop_take];congr 1;omega
 refine ⟨fun h=>⟨⟨by omega,h⟩,fun h1=>⟨⟨by simp at h1;omega,hi⟩,by omega,(i+1,i+3,out++[(s.take i).drop a]),⟨by show i+1≤s.length;omega,by show i+3≤i+1+2;omega,by show i+3≤s.length;omega,by simp;omega,?_⟩,by show s.length-(i+1)<_;omega,by rw [hw]⟩,fun h1=>⟨(i+1,a,out),⟨by show i+1≤s.length;omega,by show a≤i+1+2;omega,ha2,by show out.length≤i+1;omega,?_⟩,by show s.length-(i+1)<_;omega,by rw [hw]⟩⟩,fun h=>⟨⟨ha2,Nat.le_refl _⟩,by omega,?_⟩⟩
 ·rw [Int.toNat_natCast,hsd,Bool.and_eq_true,decide_eq_true_eq] at h1
  rw [← hr,splAt_hit (by simp) (by omega) h1.2 (by rw [pre_three];exact h1.1),List.append_assoc];rfl
 ·rw [Int.toNat_natCast,hsd,Bool.and_eq_false_iff,decide_eq_false_iff_not] at h1
  show out++splAt _ s (i+1) a=_
  rw [← hr,splAt_miss (i:=i) (by omega) fun hh=>by rw [pre_three];exact h1.resolve_right (fun h2=>h2 hh)]
 ·rw [← hr,splAt_end hi ha2 (by simp;omega),List.take_of_length_le (Nat.le_refl _)]
end Go.D3
namespace Go.D3
open Go
set_option maxRecDepth 100000
def isDig (b:UInt8):Bool:=decide (48≤b.toNat)&&decide (b.toNat≤57)
def valF (n:Nat) (s:List UInt8):Nat:=s.foldl (fun n b=>10*n+(b.toNat-48)) n
def numO (most:Nat) (s:List UInt8):Option Nat:=if (!s.isEmpty&&decide (s.length≤most)&&!(decide (1<s.length)&&s.getD 0 0 == 48)&&s.all isDig)=true then some (valF 0 s) else none
theorem valF_snoc {b:UInt8} {s:List UInt8} {n:Nat}:valF n (s++[b])=10*valF n s+(b.toNat-48):=by unfold valF;rw [List.foldl_append,List.foldl_cons,List.foldl_nil]
theorem valF_cons {b:UInt8} {s:List UInt8} {n:Nat}:valF n (b::s)=valF (10*n+(b.toNat-48)) s:=by unfold valF;rw [List.foldl_cons]
theorem valF_lt {s:List UInt8} (h:s.all isDig=true) (n:Nat):valF n s<(n+1)*10 ^ s.length:=by
 induction s generalizing n with
 | nil=>rw [List.length_nil,Nat.pow_zero];exact Nat.lt_of_lt_of_eq (Nat.lt_succ_self n) (Nat.mul_one _).symm
 | cons b s ih =>
  simp only [List.all_cons,Bool.and_eq_true,isDig,decide_eq_true_eq] at h
  have:=ih h.2 (10*n+(b.toNat-48))
  rw [valF_cons,List.length_cons,Nat.pow_succ,Nat.mul_comm (10 ^ s.length),← Nat.mul_assoc]
  exact Nat.lt_of_lt_of_le this (Nat.mul_le_mul_right _ (by omega))
theorem take_snoc8 {s:List UInt8} {i:Nat} (h:i<s.length):s.take (i+1)=s.take i++[s.getD i 0]:=by rw [getD_lt h,List.take_succ_eq_append_getElem h]
theorem all_take {s:List UInt8} {i:Nat} (h:i<s.length) (ha:(s.take i).all isDig=true) (hb:isDig (s.getD i 0)=true):(s.take (i+1)).all isDig=true:=by
 rw [take_snoc8 h,List.all_append,ha];simpa using hb
theorem num_bad {most:Nat} {s:List UInt8} {i:Nat} (h:i<s.length) (hb:isDig (s.getD i 0)=false):numO most s=none:=by
 unfold numO
 rw [if_neg]
 intro hh
 simp only [Bool.and_eq_true] at hh
 have:=List.all_eq_true.1 hh.2 _ (List.getElem_mem h)
 rw [getD_lt h] at hb;rw [hb] at this;cases this
theorem num_ok {most:Nat} {s:List UInt8} (h0:s≠[]) (h1:s.length≤most) (h2:¬ (1<s.length∧s.getD 0 0=48)) (h3:s.all isDig=true):numO most s=some (valF 0 s):=by
 unfold numO
 rw [if_pos]
 rw [h3]
 simp only [Bool.and_true,Bool.and_eq_true,Bool.not_eq_true',decide_eq_true_eq,Bool.and_eq_false_iff,decide_eq_false_iff_not,beq_eq_false_iff_ne]
 exact ⟨⟨by cases s<;>simp_all,h1⟩,by by_cases h : 1<s.length<;>simp_all⟩
theorem num_none {most:Nat} {s:List UInt8} (h:s=[]∨most<s.length∨(1<s.length∧s.getD 0 0=48)):numO most s=none:=by
 unfold numO
 rw [if_neg]
 intro hh
 simp only [Bool.and_eq_true,Bool.not_eq_true',decide_eq_true_eq,Bool.and_eq_false_iff,decide_eq_false_iff_not,beq_eq_false_iff_ne] at hh
 rcases h with rfl | h | ⟨h,h'⟩
 ·simp at hh
 ·omega
 ·rcases hh.1.2 with h2 | h2
  ·exact h2 h
  ·exact h2 h'
def valD:Option Nat→D
 | some n=>.int .i64 n
 | none=>.int .i64 (-1)
theorem pow9 {k:Nat} (h:k≤9) : 10 ^ k≤1000000000:=Nat.pow_le_pow_right (n:=10) (by omega) h
theorem dig_sub {b:UInt8} (h:isDig b=true):IntKind.u8.wrap ((b.toNat:Int)-48)=((b.toNat-48:Nat):Int):=by
 simp only [isDig,Bool.and_eq_true,decide_eq_true_eq] at h
 rw [wrap_of_has ⟨by simp [IntKind.min,IntKind.signed];omega,by simp [IntKind.max,IntKind.signed,IntKind.bits];omega⟩];omega
def c_spec_l01Value:C := (.seq (.ops [] [⟨none,.asg 1 (.i 0)⟩] []) (.seq (.opc [] [⟨none,.mv (.v 0)⟩,⟨none,.lenS (.t 0)⟩,⟨none,.bin .eql (.t 1) (.i 0)⟩,⟨none,.mv (.t 2)⟩,⟨some (3,false),.mv (.v 0)⟩,⟨some (3,false),.lenS (.t 4)⟩,⟨some (3,false),.bin .gtr (.t 5) (.i 9)⟩,⟨none,.pick (.t 3) (.k (.bool true)) (.t 6)⟩,⟨none,.mv (.t 7)⟩,⟨some (8,false),.mv (.v 0)⟩,⟨some (8,false),.lenS (.t 9)⟩,⟨some (8,false),.bin .gtr (.t 10) (.i 1)⟩,⟨some (8,false),.mv (.t 11)⟩,⟨some (12,true),.mv (.v 0)⟩,⟨some (12,true),.idxS (.t 13) (.i 0)⟩,⟨some (12,true),.bin .eql (.t 14) (.k (.int .u8 48))⟩,⟨some (8,false),.pick (.t 12) (.t 15) (.k (.bool false))⟩,⟨none,.pick (.t 8) (.k (.bool true)) (.t 16)⟩] [] (.t 17) (.seq (.ops [] [⟨none,.asg 1 (.i (-1))⟩] []) .ret) .skip) (.seq (.ops [] [⟨none,.asg 2 (.i 0)⟩] []) (.seq (.seq (.ops [] [⟨none,.asg 3 (.i 0)⟩] []) (.block 0 (.loop (.seq (.opc [] [⟨none,.mv (.v 3)⟩,⟨none,.mv (.v 0)⟩,⟨none,.lenS (.t 1)⟩,⟨none,.bin .lss (.t 0) (.t 2)⟩] [] (.t 3) .skip (.exit 0)) (.seq (.block 1 (.seq (.opc [] [⟨none,.mv (.v 0)⟩,⟨none,.mv (.v 3)⟩,⟨none,.idxS (.t 0) (.t 1)⟩,⟨none,.bin .lss (.t 2) (.k (.int .u8 48))⟩,⟨none,.mv (.t 3)⟩,⟨some (4,false),.mv (.v 0)⟩,⟨some (4,false),.mv (.v 3)⟩,⟨some (4,false),.idxS (.t 5) (.t 6)⟩,⟨some (4,false),.bin .gtr (.t 7) (.k (.int .u8 57))⟩,⟨none,.pick (.t 4) (.k (.bool true)) (.t 8)⟩] [] (.t 9) (.seq (.ops [] [⟨none,.asg 1 (.i (-1))⟩] []) .ret) .skip) (.ops [] [⟨none,.mv (.v 2)⟩,⟨none,.bin .mul (.t 0) (.i 10)⟩,⟨none,.mv (.v 0)⟩,⟨none,.mv (.v 3)⟩,⟨none,.idxS (.t 2) (.t 3)⟩,⟨none,.bin .sub (.t 4) (.k (.int .u8 48))⟩,⟨none,.conv .i64 (.t 5)⟩,⟨none,.bin .add (.t 1) (.t 6)⟩,⟨none,.asg 2 (.t 7)⟩] []))) (.ops [] [⟨none,.mv (.v 3)⟩,⟨none,.bin .add (.t 0) (.i 1)⟩,⟨none,.asg 3 (.t 1)⟩] [])))))) (.seq (.ops [] [⟨none,.mv (.v 2)⟩,⟨none,.asg 1 (.t 0)⟩] []) .ret)))))
def tr_spec_l01Value:List Nat:=[0,2,3,4]
def rs_spec_l01Value:List RS:=[.t 1]
theorem ok_spec_l01Value:fnOk Go.Proofs.Tryz.prog Go.Proofs.Tryz.f60 tr_spec_l01Value c_spec_l01Value 1 rs_spec_l01Value=true:=by decide +kernel
theorem ret_spec_l01Value (s:List UInt8):Ret Go.Proofs.Tryz.prog 60 [.v (.str s)] (valD (numO 9 s)):=by
 refine ret_fn Go.Proofs.Tryz.func60 ok_spec_l01Value rfl (show 1<500 by decide) rfl ?_;unfold c_spec_l01Value tr_spec_l01Value rs_spec_l01Value;simp only [go_sem,Nat.reduceLT,Nat.reduceAdd,Nat.reduceSub,↓reduceIte]
 refine ⟨fun h=>by simpa using h,fun h=>⟨h,by decide,by simp only [Bool.and_eq_true,decide_eq_true_eq] at h;omega⟩,fun h=>by simp at h ⊢;exact ⟨h,fun h2=>⟨h,h2⟩⟩,(fun h=>by simp only [Bool.or_eq_false_iff,Bool.and_eq_true,Bool.not_eq_true'] at h ⊢;exact h),fun h=>?_,fun h=>?_⟩
 ·rw [num_none];rfl
  simp only [Bool.or_eq_true,Bool.and_eq_true,decide_eq_true_eq,beq_iff_eq] at h
  rcases h with (h | h) | ⟨h,h'⟩
  ·exact .inl (List.length_eq_zero_iff.1 (by omega))
  ·exact .inr (.inl (by omega))
  ·exact .inr (.inr ⟨by omega,UInt8.toNat_inj.1 (by show _=48;omega)⟩)
 ·simp only [Bool.or_eq_false_iff,beq_eq_false_iff_ne,decide_eq_false_iff_not,Bool.and_eq_false_iff] at h
  obtain ⟨⟨h0,h9⟩,hz⟩:=h
  refine loop_set [] (fun (i:Nat)=>[(2,.int .i64 (valF 0 (s.take i))),(3,.int .i64 i)]) (fun i=>i≤s.length∧(s.take i).all isDig=true) (fun i=>s.length-i) 0 (by simp only [go_sem];rfl) ⟨Nat.zero_le _,rfl⟩ rfl ?_
  rintro i ⟨hi,ha⟩
  simp only [go_sem,Nat.reduceLT,Nat.reduceAdd,Nat.reduceSub,↓reduceIte]
  refine ⟨fun h=>⟨h,fun h1=>⟨h1,h⟩,fun h1=>by simpa using h1,fun h1=>?_,fun h1=>⟨h,i+1,⟨h,all_take h ha ?_⟩,by omega,?_⟩⟩,fun h=>?_⟩
  ·rw [num_bad h];rfl
   simp only [Bool.or_eq_true,decide_eq_true_eq] at h1
   simp only [isDig,Bool.and_eq_false_iff,decide_eq_false_iff_not];omega
  ·simp only [Bool.or_eq_false_iff,decide_eq_false_iff_not] at h1
   simp only [isDig,Bool.and_eq_true,decide_eq_true_eq];omega
  ·have hd:isDig (s.getD i 0)=true:=by
    simp only [Bool.or_eq_false_iff,decide_eq_false_iff_not] at h1
    simp only [isDig,Bool.and_eq_true,decide_eq_true_eq];omega
   have hv:=valF_lt ha 0
   have hp:=pow9 (k:=(s.take i).length) (by rw [List.length_take];omega)
   have hb:=(s.getD i 0).toNat_lt
   rw [dig_sub hd,take_snoc8 h,valF_snoc,wrap_small (n:=(valF 0 (s.take i):Int)*10) (by omega) (by omega),wrap_small (n:=(((s.getD i 0).toNat-48:Nat):Int)) (by omega) (by omega),wrap_small (by omega) (by omega),wrap_small (n:=(i:Int)+1) (by omega) (by omega)]
   congr 4
   all_goals omega
  ·rw [List.take_of_length_le (by omega)] at ha ⊢
   rw [num_ok (by rintro rfl;simp at h0) (by omega) (fun hh=>by rw [hh.2] at hz;exact hz.elim (fun hz=>by omega) fun hz=>hz (by decide)) ha];rfl
end Go.D3
namespace Go.D3
open Go
set_option maxRecDepth 100000
theorem dig_of {m:Nat} (h:m<10):isDig (UInt8.ofNat (48+m))=true∧(UInt8.ofNat (48+m)).toNat-48=m:=by
 have:(UInt8.ofNat (48+m)).toNat=48+m:=by rw [UInt8.toNat_ofNat',Nat.mod_eq_of_lt (by omega)]
 unfold isDig
 rw [this]
 exact ⟨by simp only [Bool.and_eq_true,decide_eq_true_eq];omega,by omega⟩
theorem of_dig {b:UInt8} (h:isDig b=true):UInt8.ofNat (48+(b.toNat-48))=b:=by
 simp only [isDig,Bool.and_eq_true,decide_eq_true_eq] at h
 rw [show 48+(b.toNat-48)=b.toNat by omega,UInt8.ofNat_toNat]
theorem dec_facts (n:Nat):(Lib.decDigits n).all isDig=true∧valF 0 (Lib.decDigits n)=n∧Lib.decDigits n≠[]∧(0<n→(Lib.decDigits n).getD 0 0≠48):=by
 induction n using Nat.strongRecOn with
 | _ n ih =>
  by_cases h:n<10
  ·rw [Lib.decDigits_one h]
   obtain ⟨h1,h2⟩:=dig_of h
   refine ⟨by rw [List.all_cons,h1];rfl,by rw [valF_cons,h2,Nat.mul_zero,Nat.zero_add];rfl,by simp,fun h0 hh=>?_⟩
   have hh:UInt8.ofNat (48+n)=48:=hh
   rw [hh] at h2
   have:(48:UInt8).toNat-48=0:=by decide
   omega
  ·rw [dec_ge h]
   obtain ⟨h1,h2⟩:=dig_of (show n % 10<10 by omega)
   obtain ⟨i1,i2,i3,i4⟩:=ih (n / 10) (by omega)
   refine ⟨by rw [List.all_append,i1,List.all_cons,h1];rfl,by rw [valF_snoc,i2,h2];omega,by simp,fun _=>?_⟩
   have hl : 0<(Lib.decDigits (n / 10)).length:=List.length_pos_iff.2 i3
   rw [List.getD_eq_getElem?_getD,List.getElem?_append_left hl,← List.getD_eq_getElem?_getD]
   exact i4 (by omega)
theorem dec_num {n most:Nat} (h:(Lib.decDigits n).length≤most):numO most (Lib.decDigits n)=some n:=by
 obtain ⟨h1,h2,h3,h4⟩:=dec_facts n
 rw [num_ok h3 h (fun hh=>?_) h1,h2]
 by_cases h0:n<10
 ·rw [Lib.decDigits_one h0] at hh;simp at hh
 ·exact h4 (by omega) hh.2
theorem num_some {most n:Nat} {s:List UInt8} (h:numO most s=some n):s≠[]∧s.length≤most∧¬ (1<s.length∧s.getD 0 0=48)∧s.all isDig=true∧valF 0 s=n:=by
 unfold numO at h
 split at h
 ·rename_i hh
  simp only [Bool.and_eq_true,Bool.not_eq_true',decide_eq_true_eq,Bool.and_eq_false_iff,decide_eq_false_iff_not,beq_eq_false_iff_ne] at hh
  obtain ⟨⟨⟨a1,a2⟩,a3⟩,a4⟩:=hh
  exact ⟨by rintro rfl;simp at a1,a2,fun h=>a3.elim (fun a=>a h.1) fun a=>a h.2,a4,by injection h⟩
 ·cases h
theorem valF_ge {s:List UInt8} {n:Nat}:n≤valF n s:=by
 induction s generalizing n with
 | nil=>exact Nat.le_refl _
 | cons b s ih=>rw [valF_cons];exact Nat.le_trans (by omega) ih
theorem dec_val:∀ (k:Nat) (s:List UInt8),s.length=k→s≠[]→¬ (1<s.length∧s.getD 0 0=48)→s.all isDig=true→Lib.decDigits (valF 0 s)=s:=by
 intro k
 induction k with
 | zero=>intro s h h0;exact absurd (List.length_eq_zero_iff.1 h) h0
 | succ k ih =>
  intro s h h0 hz ha
  obtain ⟨t,b,rfl⟩:∃ t b,s=t++[b]:=⟨s.dropLast,s.getLast h0,(List.dropLast_concat_getLast h0).symm⟩
  rw [List.all_append,Bool.and_eq_true] at ha
  have hb:isDig b=true:=by simpa using ha.2
  have hb2:=hb
  simp only [isDig,Bool.and_eq_true,decide_eq_true_eq] at hb2
  rw [valF_snoc]
  rw [List.length_append,List.length_cons,List.length_nil] at h hz
  cases t with
  | nil=>rw [show valF 0 []=0 from rfl,Lib.decDigits_one (by omega),Nat.mul_zero,Nat.zero_add,of_dig hb];rfl
  | cons c t =>
   have hc:c≠48:=fun hc=>hz ⟨by simp,by subst hc;rfl⟩
   have hcd:isDig c=true:=by have:=ha.1;simp only [List.all_cons,Bool.and_eq_true] at this;exact this.1
   simp only [isDig,Bool.and_eq_true,decide_eq_true_eq] at hcd
   have hc2:c.toNat≠48:=fun hh=>hc (UInt8.toNat_inj.1 hh)
   have hv : 1≤valF 0 (c::t):=by rw [valF_cons];exact Nat.le_trans (by omega) valF_ge
   rw [dec_ge (by omega),show (10*valF 0 (c::t)+(b.toNat-48)) / 10=valF 0 (c::t) by omega,show (10*valF 0 (c::t)+(b.toNat-48)) % 10=b.toNat-48 by omega,of_dig hb,
    ih (c::t) (by omega) (by simp) (fun hh=>hc hh.2) ha.1]
theorem num_dec {most n:Nat} {s:List UInt8} (h:numO most s=some n):Lib.decDigits n=s:=by
 obtain ⟨h1,h2,h3,h4,h5⟩:=num_some h
 rw [← h5];exact dec_val _ s rfl h1 h3 h4
theorem num_lt {n:Nat} {s:List UInt8} (h:numO 9 s=some n):n<1000000000:=by
 obtain ⟨h1,h2,h3,h4,h5⟩:=num_some h
 have:=valF_lt h4 0
 have:=pow9 h2
 omega
theorem parse_dig {s:List UInt8} (h:s.all isDig=true):∀ acc,(acc+1)*10 ^ s.length≤1000000000→Lib.parseUint10 acc s=.ok (valF acc s):=by
 induction s with
 | nil=>intro acc _;rfl
 | cons b s ih =>
  intro acc hacc
  simp only [List.all_cons,Bool.and_eq_true,isDig,decide_eq_true_eq] at h
  rw [List.length_cons,Nat.pow_succ,Nat.mul_comm (10 ^ s.length),← Nat.mul_assoc] at hacc
  have hp : 1≤10 ^ s.length:=Nat.one_le_pow _ _ (by decide)
  have h1:(acc+1)*10≤(acc+1)*10*10 ^ s.length:=Nat.le_mul_of_pos_right _ hp
  have:=ih h.2 (acc*10+(b.toNat-48)) (Nat.le_trans (Nat.mul_le_mul_right _ (by omega)) hacc)
  rw [Lib.parseUint10,if_pos h.1,if_neg (by omega),if_neg (by omega),this,valF_cons,Nat.mul_comm acc]
def pintV (s:List UInt8):Int:=match Lib.parseIntB 64 s with
 | .ok v=>v
 | .range=>Lib.intSat 64 s
 | _=>0
theorem parse_num {n:Nat} {s:List UInt8} (h:numO 9 s=some n):Lib.parseIntB 64 s=.ok (n:Int):=by
 obtain ⟨h1,h2,h3,h4,h5⟩:=num_some h
 cases s with
 | nil=>exact absurd rfl h1
 | cons c r =>
  have hc:isDig c=true:=by simp only [List.all_cons,Bool.and_eq_true] at h4;exact h4.1
  simp only [isDig,Bool.and_eq_true,decide_eq_true_eq] at hc
  rw [Lib.parseIntB_plain 64 c r (by omega) (by omega),Lib.parseUintB_64]
  unfold Lib.parseMag
  rw [if_neg (by simp),parse_dig h4 0 (by rw [Nat.zero_add,Nat.one_mul];exact pow9 h2),h5]
  have:=num_lt h
  show (if 2 ^ (64-1)≤n then _ else _)=_
  rw [if_neg (by omega)]
theorem pintV_num {n:Nat} {s:List UInt8} (h:numO 9 s=some n):pintV s=n:=by unfold pintV;rw [parse_num h]
theorem long_ok {s:List UInt8} {v:Int} (hp:Lib.parseIntB 64 s=.ok v):(decide (s.length≤9)&&(Lib.itoa v == s)&&decide (0≤v))=(numO 9 s).isSome:=by
 cases h:numO 9 s with
 | some n =>
  have:=parse_num h
  rw [hp] at this
  injection this with this
  subst this
  have h2:=(num_some h).2.1
  rw [Lib.itoa_nonneg,num_dec h]
  simp [h2]
 | none =>
  show _=false
  rw [Bool.eq_false_iff]
  intro hh
  simp only [Bool.and_eq_true,decide_eq_true_eq,beq_iff_eq] at hh
  obtain ⟨⟨h1,h2⟩,h3⟩:=hh
  obtain ⟨n,rfl⟩:∃ n:Nat,v=n:=⟨v.toNat,by omega⟩
  rw [Lib.itoa_nonneg] at h2
  rw [← h2] at h h1
  rw [dec_num h1] at h
  cases h
theorem long_bad {s:List UInt8} (hp:∀ v,Lib.parseIntB 64 s≠.ok v):(numO 9 s).isSome=false:=by
 cases h:numO 9 s with
 | some n=>exact absurd (parse_num h) (hp n)
 | none=>rfl
def c_impl_longDigits:C := (.seq (.ops [] [⟨none,.asg 1 (.i 0)⟩,⟨none,.asg 2 (.k (.bool false))⟩] []) (.seq (.ops [] [⟨none,.mv (.v 0)⟩,⟨none,.call 125 [(.t 0),(.i 10),(.i 64)]⟩,⟨none,.mv (.t 1)⟩,⟨none,.ext 0 (.t 2)⟩,⟨none,.ext 1 (.t 2)⟩,⟨none,.asg 3 (.t 3)⟩,⟨none,.asg 4 (.t 4)⟩] []) (.seq (.ops [] [⟨none,.mv (.v 3)⟩,⟨none,.mv (.v 4)⟩,⟨none,.nilI false (.t 1)⟩,⟨none,.mv (.t 2)⟩,⟨some (3,true),.mv (.v 0)⟩,⟨some (3,true),.lenS (.t 4)⟩,⟨some (3,true),.bin .leq (.t 5) (.i 9)⟩,⟨none,.pick (.t 3) (.t 6) (.k (.bool false))⟩,⟨none,.mv (.t 7)⟩,⟨some (8,true),.mv (.v 3)⟩,⟨some (8,true),.call 51 [(.t 9),(.i 10)]⟩,⟨some (8,true),.mv (.v 0)⟩,⟨some (8,true),.bin .eql (.t 10) (.t 11)⟩,⟨none,.pick (.t 8) (.t 12) (.k (.bool false))⟩,⟨none,.mv (.t 13)⟩,⟨some (14,true),.mv (.v 3)⟩,⟨some (14,true),.bin .geq (.t 15) (.i 0)⟩,⟨none,.pick (.t 14) (.t 16) (.k (.bool false))⟩,⟨none,.asg 1 (.t 0)⟩,⟨none,.asg 2 (.t 17)⟩] []) .ret)))
def tr_impl_longDigits:List Nat:=[0,2,3,4,5]
def rs_impl_longDigits:List RS:=[.t 1,.t 2]
theorem ok_impl_longDigits:fnOk Go.Proofs.Tryz.prog Go.Proofs.Tryz.f105 tr_impl_longDigits c_impl_longDigits 1 rs_impl_longDigits=true:=by decide +kernel
theorem ret_impl_longDigits (s:List UInt8) (hs:s.length≤281474976710656):Ret Go.Proofs.Tryz.prog 105 [.v (.str s)] (.tup [.int .i64 (pintV s),.bool (numO 9 s).isSome]):=by
 refine ret_fn Go.Proofs.Tryz.func105 ok_impl_longDigits rfl (show 1<500 by decide) rfl ?_;unfold c_impl_longDigits tr_impl_longDigits rs_impl_longDigits;simp only [go_sem,Nat.reduceLT,Nat.reduceAdd,Nat.reduceSub,↓reduceIte]
 refine call_of (ret_parseInt hs) rfl (.inr trivial) ?_
 unfold pintD
 cases hp:Lib.parseIntB 64 s with
 | ok v =>
  have hv:pintV s=v:=by unfold pintV;rw [hp]
  rw [← long_ok hp,hv]
  simp only [go_sem,Nat.reduceLT,Nat.reduceAdd,Nat.reduceSub,↓reduceIte]
  refine callg_of (fun _=>ret_itoa) rfl (fun h=>h) (.inl rfl) ?_
  simp only [go_sem,Nat.reduceLT,Nat.reduceAdd,Nat.reduceSub,↓reduceIte]
  rw [show decide ((s.length:Int)≤9)=decide (s.length≤9) from decide_eq_decide.2 (by omega)]
 | range =>
  have hv:pintV s=Lib.intSat 64 s:=by unfold pintV;rw [hp]
  rw [long_bad (by rw [hp];intro v h;cases h),hv]
  simp only [go_sem,Nat.reduceLT,Nat.reduceAdd,Nat.reduceSub,↓reduceIte]
  refine callg_of (res:=.str []) (fun h=>by cases h) rfl (fun h=>by cases h) (.inl rfl) ?_
  simp only [go_sem,Nat.reduceLT,Nat.reduceAdd,Nat.reduceSub,↓reduceIte]
 | _ =>
  have hv:pintV s=0:=by unfold pintV;rw [hp]
  rw [long_bad (by rw [hp];intro v h;cases h),hv]
  simp only [go_sem,Nat.reduceLT,Nat.reduceAdd,Nat.reduceSub,↓reduceIte]
  refine callg_of (res:=.str []) (fun h=>by cases h) rfl (fun h=>by cases h) (.inl rfl) ?_
  simp only [go_sem,Nat.reduceLT,Nat.reduceAdd,Nat.reduceSub,↓reduceIte]
theorem i32_sub {e:Nat} (h : 48≤e∧e≤57):IntKind.i32.wrap ((e:Int)-48)=((e-48:Nat):Int):=by
 rw [wrap_of_has ⟨by simp [IntKind.min,IntKind.signed,IntKind.bits];omega,by simp [IntKind.max,IntKind.signed,IntKind.bits];omega⟩];omega
theorem gl_0:gl 0=some (.ptr [eS]):=rfl
attribute [go_sem] gl_0 Option.getD_some
theorem rune_dig {s:List UInt8} {i:Nat} (h:i<s.length):(isDig (s.getD i 0)=true∧runeAt s i=((s.getD i 0).toNat,1))∨(isDig (s.getD i 0)=false∧((runeAt s i).1<48∨57<(runeAt s i).1)):=by
 have hsz:i<(⟨s.toArray⟩:ByteArray).size:=by show i<s.toArray.size;simpa using h
 have hg:(⟨s.toArray⟩:ByteArray)[i]'hsz=s.getD i 0:=by rw [getD_lt h];rfl
 unfold runeAt isDig
 by_cases ha:(s.getD i 0).toNat<128
 ·rw [decode_ascii _ _ hsz (by rw [hg];exact ha),hg]
  by_cases hd : 48≤(s.getD i 0).toNat∧(s.getD i 0).toNat≤57
  ·exact .inl ⟨by simp only [Bool.and_eq_true,decide_eq_true_eq];exact hd,rfl⟩
  ·exact .inr ⟨by simp only [Bool.and_eq_false_iff,decide_eq_false_iff_not];omega,by show _<_∨_<_;omega⟩
 ·have:=(decode_high ⟨s.toArray⟩ i hsz (by rw [hg];omega)).1
  exact .inr ⟨by simp only [Bool.and_eq_false_iff,decide_eq_false_iff_not];omega,.inr (by omega)⟩
def dgtD:Option Nat→D
 | some n=>.tup [.int .i64 n,.nifc]
 | none=>.tup [.int .i64 0,eS]
def c_impl_digits:C := (.seq (.ops [] [⟨none,.asg 1 (.i 0)⟩,⟨none,.asg 2 (.k .nifc)⟩] []) (.seq (.ops [] [⟨none,.asg 3 (.i 0)⟩] []) (.seq (.seq (.ops [6] [⟨none,.mv (.v 0)⟩,⟨none,.rng (.t 0)⟩] [(6,1)]) (.block 0 (.loop (.opq [7] [⟨none,.nxt 6⟩,⟨none,.ext 0 (.t 0)⟩] [(7,0)] (.t 1) .skip (.exit 0) (.block 1 (.seq (.ops [] [⟨none,.ext 1 (.v 7)⟩,⟨none,.ext 2 (.v 7)⟩,⟨none,.asg 4 (.t 0)⟩,⟨none,.asg 5 (.t 1)⟩] []) (.seq (.opc [] [⟨none,.mv (.v 5)⟩,⟨none,.bin .lss (.t 0) (.k (.int .i32 48))⟩,⟨none,.mv (.t 1)⟩,⟨some (2,false),.mv (.v 5)⟩,⟨some (2,false),.bin .gtr (.t 3) (.k (.int .i32 57))⟩,⟨none,.pick (.t 2) (.k (.bool true)) (.t 4)⟩,⟨none,.mv (.t 5)⟩,⟨some (6,false),.mv (.v 4)⟩,⟨some (6,false),.bin .gtr (.t 7) (.i 5)⟩,⟨none,.pick (.t 6) (.k (.bool true)) (.t 8)⟩,⟨none,.mv (.t 9)⟩,⟨some (10,false),.mv (.v 4)⟩,⟨some (10,false),.bin .eql (.t 11) (.i 0)⟩,⟨some (10,false),.mv (.t 12)⟩,⟨some (13,true),.mv (.v 5)⟩,⟨some (13,true),.bin .eql (.t 14) (.k (.int .i32 48))⟩,⟨some (10,false),.pick (.t 13) (.t 15) (.k (.bool false))⟩,⟨some (10,false),.mv (.t 16)⟩,⟨some (17,true),.mv (.v 0)⟩,⟨some (17,true),.lenS (.t 18)⟩,⟨some (17,true),.bin .gtr (.t 19) (.i 1)⟩,⟨some (10,false),.pick (.t 17) (.t 20) (.k (.bool false))⟩,⟨none,.pick (.t 10) (.k (.bool true)) (.t 21)⟩] [] (.t 22) (.seq (.ops [1] [⟨none,.ld (.g 0)⟩,⟨none,.mv (.i 0)⟩,⟨none,.asg 2 (.t 0)⟩] [(1,1)]) .ret) .skip) (.ops [] [⟨none,.mv (.v 3)⟩,⟨none,.bin .mul (.i 10) (.t 0)⟩,⟨none,.mv (.v 5)⟩,⟨none,.bin .sub (.t 2) (.k (.int .i32 48))⟩,⟨none,.conv .i64 (.t 3)⟩,⟨none,.bin .add (.t 1) (.t 4)⟩,⟨none,.asg 3 (.t 5)⟩] [])))))))) (.seq (.opc [] [⟨none,.mv (.v 0)⟩,⟨none,.bin .eql (.t 0) (.k (.str []))⟩] [] (.t 1) (.seq (.ops [1] [⟨none,.ld (.g 0)⟩,⟨none,.mv (.i 0)⟩,⟨none,.asg 2 (.t 0)⟩] [(1,1)]) .ret) .skip) (.seq (.ops [] [⟨none,.mv (.v 3)⟩,⟨none,.asg 1 (.t 0)⟩,⟨none,.asg 2 (.k .nifc)⟩] []) .ret)))))
def tr_impl_digits:List Nat:=[0,2,3,4,5,6,8,9]
def rs_impl_digits:List RS:=[.t 1,.t 2]
theorem ok_impl_digits:fnOk Go.Proofs.Tryz.prog Go.Proofs.Tryz.f116 tr_impl_digits c_impl_digits 1 rs_impl_digits=true:=by decide +kernel
theorem ret_impl_digits (s:List UInt8):Ret Go.Proofs.Tryz.prog 116 [.v (.str s)] (dgtD (numO 6 s)):=by
 refine ret_wf fun hw=>?_
 simp only [argsWf,D.wfd] at hw
 have hl:s.length≤maxLen:=hw.1
 refine ret_fn Go.Proofs.Tryz.func116 ok_impl_digits rfl (show 1<500 by decide) rfl ?_;unfold c_impl_digits tr_impl_digits rs_impl_digits;simp only [go_sem,Nat.reduceLT,Nat.reduceAdd,Nat.reduceSub,↓reduceIte]
 refine loop_set [7] (fun (p:Nat×D×D)=>[(3,.int .i64 (valF 0 (s.take p.1))),(4,p.2.1),(5,p.2.2),(6,.o (.itr s p.1))]) (fun p=>p.1≤s.length∧p.1≤6∧(s.take p.1).all isDig=true∧(0<p.1→¬ (1<s.length∧s.getD 0 0=48))) (fun p=>s.length-p.1) (0,.dead,.dead) (by simp only [go_sem,Nat.reduceLT,↓reduceIte];rfl) ⟨Nat.zero_le _,Nat.zero_le _,rfl,fun h=>absurd h (by decide)⟩ rfl ?_
 rintro ⟨i,d4,d5⟩ ⟨hi,h6,ha,hz⟩
 simp only at hi h6 ha hz
 simp only [go_sem,Nat.reduceLT,Nat.reduceAdd,Nat.reduceSub,↓reduceIte]
 refine ⟨fun h=>?_,fun h=>⟨?_,?_⟩⟩
 ·have hw1:IntKind.i64.wrap (10*(valF 0 (s.take i):Int))=10*(valF 0 (s.take i):Int):=by
   have hv:=valF_lt ha 0
   have hp:=pow9 (k:=(s.take i).length) (by rw [List.length_take];omega)
   exact wrap_small (by omega) (by omega)
  rw [hw1]
  refine ⟨by simp,by simp,fun h=>⟨h,fun h2=>by rw [h];simpa using h2⟩,fun h=>⟨h,fun h2=>by rw [h,h2];rfl⟩,by simp +contextual,fun h1=>?_,fun h1=>?_⟩
  ·rw [show numO 6 s=none from ?_];rfl
   rcases rune_dig h with ⟨hd,he⟩ | ⟨hd,he⟩
   ·rw [he] at h1
    simp only [isDig,Bool.and_eq_true,decide_eq_true_eq] at hd
    simp only [Bool.or_eq_true,Bool.and_eq_true,decide_eq_true_eq,beq_iff_eq] at h1
    refine num_none (.inr ?_)
    rcases h1 with ((h1 | h1) | h1) | ⟨⟨h1,h2⟩,h3⟩
    ·omega
    ·omega
    ·exact .inl (by omega)
    ·refine .inr ⟨by omega,UInt8.toNat_inj.1 ?_⟩
     have:i=0:=by omega
     subst this
     show _=48;omega
   ·exact num_bad h hd
  ·rcases rune_dig h with ⟨hd,he⟩ | ⟨hd,he⟩
   ·rw [he] at h1 ⊢
    have hd2:=hd
    simp only [isDig,Bool.and_eq_true,decide_eq_true_eq] at hd2
    simp only [Bool.or_eq_false_iff,Bool.and_eq_false_iff,decide_eq_false_iff_not,beq_eq_false_iff_ne] at h1
    refine ⟨(i+1,.int .i64 i,.int .i32 (s.getD i 0).toNat),⟨h,by show i+1≤6;omega,all_take h ha hd,fun _ hh=>?_⟩,by show s.length-(i+1)<_;omega,?_⟩
    ·by_cases h0:i=0
     ·subst h0
      rw [hh.2] at h1
      have:(48:UInt8).toNat=48:=rfl
      omega
     ·exact hz (by omega) hh
    ·have hv:=valF_lt ha 0
     have hp:=pow9 (k:=(s.take i).length) (by rw [List.length_take];omega)
     show _=[_,_,_,D.int .i64 (valF 0 (s.take (i+1)):Nat),_,_,_,_]
     rw [i32_sub hd2,take_snoc8 h,valF_snoc,wrap_small (n:=(((s.getD i 0).toNat-48:Nat):Int)) (by omega) (by omega),wrap_small (by omega) (by omega)]
     rfl
   ·simp only [Bool.or_eq_false_iff,decide_eq_false_iff_not] at h1
    omega
 ·rintro rfl;rfl
 ·intro h0
  rw [List.take_of_length_le h] at ha ⊢
  have h0:s≠[]:=by simpa using h0
  rw [num_ok h0 (by omega) (hz (by have:=List.length_pos_iff.2 h0;omega)) ha];rfl
end Go.D3
namespace Go.D3
open Go
set_option maxRecDepth 100000
theorem lst_cellv {α:Type} {f:α→D} {d:α} {l:List α} {k:Nat} {p:Path}:cellv k p (lst f d l)=lst f d l:=rfl
attribute [go_sem] lst_cellv
def fol (fr to:List Int):Int→List Int→Option Int
 | x,[]=>some x
 | x,e::r=>if (inR e 0 ((fr.length:Int)-1)&&fr.getD e.toNat 0 == x)=true then fol fr to (to.getD e.toNat 0) r else none
def folD:Option Int→D
 | some x=>.tup [.int .i64 x,.bool true]
 | none=>.tup [.int .i64 0,.bool false]
theorem fol_drop {fr to l:List Int} {x:Int} {i:Nat} (h:i<l.length):fol fr to x (l.drop i)=if (inR (l.getD i 0) 0 ((fr.length:Int)-1)&&fr.getD (l.getD i 0).toNat 0 == x)=true then fol fr to (to.getD (l.getD i 0).toNat 0) (l.drop (i+1)) else none:=by
 rw [List.drop_eq_getElem_cons h,fol,getD_lt h]
theorem wrap_pred {n:Nat} (h:n≤maxLen):IntKind.i64.wrap ((n:Int)-1)=(n:Int)-1:=by
 simp only [maxLen] at h
 exact wrap_of_has ⟨by simp [IntKind.min,IntKind.signed,IntKind.bits];omega,by simp [IntKind.max,IntKind.signed,IntKind.bits];omega⟩
def c_impl_Schema_follow:C := (.seq (.ops [] [⟨none,.asg 3 (.i 0)⟩,⟨none,.asg 4 (.k (.bool false))⟩] []) (.seq (.seq (.ops [7] [⟨none,.asg 6 (.v 2)⟩,⟨none,.len (.v 6)⟩,⟨none,.asg 8 (.i 0)⟩] [(7,1)]) (.block 0 (.loop (.opq [] [⟨none,.bin .lss (.v 8) (.v 7)⟩] [] (.t 0) .skip (.exit 0) (.seq (.block 1 (.seq (.ops [] [⟨none,.idxA 1 (.v 6) (.v 8)⟩,⟨none,.ld (.t 0)⟩,⟨none,.asg 5 (.t 1)⟩] []) (.seq (.opc [] [⟨none,.mv (.v 5)⟩,⟨none,.mv (.v 0)⟩,⟨none,.nck (.t 1)⟩,⟨none,.fA 1 (.t 2)⟩,⟨none,.ld (.t 3)⟩,⟨none,.len (.t 4)⟩,⟨none,.bin .sub (.t 5) (.i 1)⟩,⟨none,.call 31 [(.t 0),(.i 0),(.t 6)]⟩,⟨none,.not (.t 7)⟩,⟨none,.mv (.t 8)⟩,⟨some (9,false),.mv (.v 0)⟩,⟨some (9,false),.nck (.t 10)⟩,⟨some (9,false),.fA 1 (.t 11)⟩,⟨some (9,false),.ld (.t 12)⟩,⟨some (9,false),.mv (.v 5)⟩,⟨some (9,false),.idxA 1 (.t 13) (.t 14)⟩,⟨some (9,false),.ld (.t 15)⟩,⟨some (9,false),.mv (.v 1)⟩,⟨some (9,false),.bin .neq (.t 16) (.t 17)⟩,⟨none,.pick (.t 9) (.k (.bool true)) (.t 18)⟩] [] (.t 19) (.seq (.ops [] [⟨none,.asg 3 (.i 0)⟩,⟨none,.asg 4 (.k (.bool false))⟩] []) .ret) .skip) (.ops [] [⟨none,.mv (.v 0)⟩,⟨none,.nck (.t 0)⟩,⟨none,.fA 2 (.t 1)⟩,⟨none,.ld (.t 2)⟩,⟨none,.mv (.v 5)⟩,⟨none,.idxA 1 (.t 3) (.t 4)⟩,⟨none,.ld (.t 5)⟩,⟨none,.asg 1 (.t 6)⟩] [])))) (.ops [] [⟨none,.bin .add (.v 8) (.i 1)⟩,⟨none,.asg 8 (.t 0)⟩] [])))))) (.seq (.ops [] [⟨none,.mv (.v 1)⟩,⟨none,.asg 3 (.t 0)⟩,⟨none,.asg 4 (.k (.bool true))⟩] []) .ret)))
def tr_impl_Schema_follow:List Nat:=[0,1,2,6,7,9,10,11,12]
def rs_impl_Schema_follow:List RS:=[.t 3,.t 4]
theorem ok_impl_Schema_follow:fnOk Go.Proofs.Tryz.prog Go.Proofs.Tryz.f136 tr_impl_Schema_follow c_impl_Schema_follow 3 rs_impl_Schema_follow=true:=by decide +kernel
theorem ret_impl_Schema_follow (s:Sch) (x:Int) (l:List Int) (hto:s.to.length=s.fr.length):Ret Go.Proofs.Tryz.prog 136 [.v (.ptr s.cells),.v (.int .i64 x),.v (ints l)] (folD (fol s.fr s.to x l)):=by
 refine ret_wf fun hw=>?_
 simp only [argsWf,wfd_lst,Sch.cells,D.wfd,wfdL] at hw
 obtain ⟨⟨-,⟨hf,-⟩,-⟩,-,⟨hl,-⟩,-⟩:=hw
 refine ret_fn Go.Proofs.Tryz.func136 ok_impl_Schema_follow rfl (show 3<500 by decide) rfl ?_;unfold c_impl_Schema_follow tr_impl_Schema_follow rs_impl_Schema_follow;simp only [go_sem,Nat.reduceLT,Nat.reduceAdd,Nat.reduceSub,↓reduceIte]
 refine loop_set [5] (fun (p:Nat×Int)=>[(1,.int .i64 p.2),(8,.int .i64 p.1)]) (fun p=>p.1≤l.length∧fol s.fr s.to p.2 (l.drop p.1)=fol s.fr s.to x l) (fun p=>l.length-p.1) (0,x) (by simp only [go_sem,Nat.reduceLT,↓reduceIte];rfl) ⟨Nat.zero_le _,rfl⟩ rfl ?_
 rintro ⟨i,y⟩ ⟨hi,ha⟩
 simp only [go_sem,Nat.reduceLT,Nat.reduceAdd,Nat.reduceSub,↓reduceIte]
 rw [wrap_pred hf]
 refine ⟨fun h=>⟨h,call_of (ret_impl_inRange _ _ _) rfl (.inl rfl) ?_⟩,fun h=>?_⟩
 ·simp only [go_sem,Nat.reduceLT,Nat.reduceAdd,Nat.reduceSub,↓reduceIte]
  have hstep:=fol_drop (fr:=s.fr) (to:=s.to) (x:=y) h
  simp only at ha hi
  rw [hstep] at ha
  have hin:inR (l.getD i 0) 0 ((s.fr.length:Int)-1)=true→0≤l.getD i 0∧l.getD i 0<s.fr.length:=by unfold inR;simp;omega
  refine ⟨fun h1=>⟨h1,hin h1⟩,fun h1=>by simpa using h1,fun h1=>?_,fun h1=>?_⟩
  ·rw [← ha,if_neg];rfl
   intro h2;simp only [Bool.and_eq_true,beq_iff_eq] at h2;rw [h2.1,h2.2] at h1;simp at h1
  ·have h2:(inR (l.getD i 0) 0 ((s.fr.length:Int)-1)&&s.fr.getD (l.getD i 0).toNat 0 == y)=true:=by
    simp only [Bool.or_eq_false_iff,Bool.not_eq_false',bne_eq_false_iff_eq] at h1
    rw [h1.1,h1.2];simp
   rw [if_pos h2] at ha
   simp only [Bool.and_eq_true] at h2
   exact ⟨by have:=hin h2.1;omega,(i+1,s.to.getD (l.getD i 0).toNat 0),⟨h,ha⟩,by show l.length-(i+1)<l.length-i;omega,by rw [wrap_lt h hl]⟩
 ·simp only at ha hi
  rw [show i=l.length by omega,List.drop_length] at ha
  rw [← ha];rfl
def Sch.endO (s:Sch) (p:Pth):Option Int:=if (inR p.st 0 (s.nd-1)&&decide (p.ed.length≤6))=true then fol s.fr s.to p.st p.ed else none
def c_impl_Schema_end:C := (.seq (.ops [4] [⟨none,.boxv 2 (.v 1)⟩,⟨none,.asg 2 (.i 0)⟩,⟨none,.asg 3 (.k (.bool false))⟩] [(4,0)]) (.seq (.opc [] [⟨none,.fA 0 (.v 4)⟩,⟨none,.ld (.t 0)⟩,⟨none,.mv (.v 0)⟩,⟨none,.nck (.t 2)⟩,⟨none,.fA 0 (.t 3)⟩,⟨none,.ld (.t 4)⟩,⟨none,.bin .sub (.t 5) (.i 1)⟩,⟨none,.call 31 [(.t 1),(.i 0),(.t 6)]⟩,⟨none,.not (.t 7)⟩,⟨none,.mv (.t 8)⟩,⟨some (9,false),.fA 1 (.v 4)⟩,⟨some (9,false),.ld (.t 10)⟩,⟨some (9,false),.len (.t 11)⟩,⟨some (9,false),.bin .gtr (.t 12) (.i 6)⟩,⟨none,.pick (.t 9) (.k (.bool true)) (.t 13)⟩] [] (.t 14) (.seq (.ops [] [⟨none,.asg 2 (.i 0)⟩,⟨none,.asg 3 (.k (.bool false))⟩] []) .ret) .skip) (.seq (.ops [] [⟨none,.mv (.v 0)⟩,⟨none,.fA 0 (.v 4)⟩,⟨none,.ld (.t 1)⟩,⟨none,.fA 1 (.v 4)⟩,⟨none,.ld (.t 3)⟩,⟨none,.call 136 [(.t 0),(.t 2),(.t 4)]⟩,⟨none,.ext 0 (.t 5)⟩,⟨none,.ext 1 (.t 5)⟩,⟨none,.asg 2 (.t 6)⟩,⟨none,.asg 3 (.t 7)⟩] []) .ret)))
def tr_impl_Schema_end:List Nat:=[0,1,4,5,3]
def rs_impl_Schema_end:List RS:=[.t 2,.t 3]
theorem ok_impl_Schema_end:fnOk Go.Proofs.Tryz.prog Go.Proofs.Tryz.f123 tr_impl_Schema_end c_impl_Schema_end 2 rs_impl_Schema_end=true:=by decide +kernel
theorem ret_impl_Schema_end (s:Sch) (p:Pth) (hto:s.to.length=s.fr.length) (hn : 0≤s.nd):Ret Go.Proofs.Tryz.prog 123 [.v (.ptr s.cells),.v (Pth.d p)] (folD (s.endO p)):=by
 refine ret_wf fun hw=>?_
 simp only [argsWf,wfd_lst,Sch.cells,D.wfd,wfdL,IntKind.has,IntKind.max,IntKind.signed,IntKind.bits] at hw
 have hn2:s.nd≤9223372036854775807:=by simpa using hw.1.1.2
 have hsub:IntKind.i64.wrap (s.nd-1)=s.nd-1:=wrap_of_has ⟨by simp [IntKind.min,IntKind.signed,IntKind.bits];omega,by simp [IntKind.max,IntKind.signed,IntKind.bits];omega⟩
 refine ret_fn Go.Proofs.Tryz.func123 ok_impl_Schema_end rfl (show 2<500 by decide) rfl ?_;unfold c_impl_Schema_end tr_impl_Schema_end rs_impl_Schema_end;simp only [go_sem,Nat.reduceLT,Nat.reduceAdd,Nat.reduceSub,↓reduceIte]
 rw [hsub]
 refine call_of (ret_impl_inRange _ _ _) rfl (.inl rfl) ?_
 simp only [go_sem,Nat.reduceLT,Nat.reduceAdd,Nat.reduceSub,↓reduceIte]
 have he:(inR p.st 0 (s.nd-1)&&decide (p.ed.length≤6))=!(!inR p.st 0 (s.nd-1) || decide ((6:Int)<(p.ed.length:Int))):=by
  rw [Bool.not_or,Bool.not_not,← decide_not]
  congr 1
  exact decide_eq_decide.2 (by omega)
 refine ⟨fun h=>by simpa using h,fun h=>?_,fun h=>?_⟩
 ·unfold Sch.endO;rw [he,h];rfl
 ·refine call_of (ret_impl_Schema_follow s p.st p.ed hto) rfl (.inl (by cases fol s.fr s.to p.st p.ed<;>rfl)) ?_
  have:s.endO p=fol s.fr s.to p.st p.ed:=by unfold Sch.endO;rw [he,h];rfl
  rw [this]
  cases fol s.fr s.to p.st p.ed<;>simp only [folD]<;>simp only [go_sem,Nat.reduceLT,Nat.reduceAdd,Nat.reduceSub,↓reduceIte]
def Sch.eqB (s:Sch) (p q:Pth):Bool :=
 match s.endO p,s.endO q with
 | some a,some b=>p.st == q.st&&a == b
 | _,_=>false
def Sch.ok1 (s:Sch):Bool:=inR s.nd 0 8&&(decide (s.fr.length≤8)&&(decide (s.to.length=s.fr.length)&&(mapB s.nd s.fr&&mapB s.nd s.to)))
def Sch.ok2 (s:Sch):Bool:=decide (s.lf.length≤8)&&decide (s.rt.length=s.lf.length)
def Sch.eqs (s:Sch) (n:Nat):Bool:=(List.range n).all fun i=>s.eqB (s.lf.getD i Pth.zero) (s.rt.getD i Pth.zero)
def Sch.ok (s:Sch):Bool:=s.ok1&&s.ok2&&s.eqs s.lf.length
theorem eqs_succ {s:Sch} {n:Nat}:s.eqs (n+1)=(s.eqs n&&s.eqB (s.lf.getD n Pth.zero) (s.rt.getD n Pth.zero)):=by
 unfold Sch.eqs;rw [List.range_succ,List.all_append];simp
def c_impl_Schema_isSchema:C := (.seq (.ops [] [⟨none,.asg 1 (.k (.bool false))⟩] []) (.seq (.opc [] [⟨none,.mv (.v 0)⟩,⟨none,.nck (.t 0)⟩,⟨none,.fA 0 (.t 1)⟩,⟨none,.ld (.t 2)⟩,⟨none,.call 31 [(.t 3),(.i 0),(.i 8)]⟩,⟨none,.not (.t 4)⟩,⟨none,.mv (.t 5)⟩,⟨some (6,false),.mv (.v 0)⟩,⟨some (6,false),.nck (.t 7)⟩,⟨some (6,false),.fA 1 (.t 8)⟩,⟨some (6,false),.ld (.t 9)⟩,⟨some (6,false),.len (.t 10)⟩,⟨some (6,false),.bin .gtr (.t 11) (.i 8)⟩,⟨none,.pick (.t 6) (.k (.bool true)) (.t 12)⟩,⟨none,.mv (.t 13)⟩,⟨some (14,false),.mv (.v 0)⟩,⟨some (14,false),.nck (.t 15)⟩,⟨some (14,false),.fA 2 (.t 16)⟩,⟨some (14,false),.ld (.t 17)⟩,⟨some (14,false),.len (.t 18)⟩,⟨some (14,false),.mv (.v 0)⟩,⟨some (14,false),.nck (.t 20)⟩,⟨some (14,false),.fA 1 (.t 21)⟩,⟨some (14,false),.ld (.t 22)⟩,⟨some (14,false),.len (.t 23)⟩,⟨some (14,false),.bin .neq (.t 19) (.t 24)⟩,⟨none,.pick (.t 14) (.k (.bool true)) (.t 25)⟩,⟨none,.mv (.t 26)⟩,⟨some (27,false),.mv (.v 0)⟩,⟨some (27,false),.nck (.t 28)⟩,⟨some (27,false),.fA 1 (.t 29)⟩,⟨some (27,false),.ld (.t 30)⟩,⟨some (27,false),.mv (.v 0)⟩,⟨some (27,false),.nck (.t 32)⟩,⟨some (27,false),.fA 0 (.t 33)⟩,⟨some (27,false),.ld (.t 34)⟩,⟨some (27,false),.call 113 [(.t 31),(.t 35)]⟩,⟨some (27,false),.not (.t 36)⟩,⟨none,.pick (.t 27) (.k (.bool true)) (.t 37)⟩,⟨none,.mv (.t 38)⟩,⟨some (39,false),.mv (.v 0)⟩,⟨some (39,false),.nck (.t 40)⟩,⟨some (39,false),.fA 2 (.t 41)⟩,⟨some (39,false),.ld (.t 42)⟩,⟨some (39,false),.mv (.v 0)⟩,⟨some (39,false),.nck (.t 44)⟩,⟨some (39,false),.fA 0 (.t 45)⟩,⟨some (39,false),.ld (.t 46)⟩,⟨some (39,false),.call 113 [(.t 43),(.t 47)]⟩,⟨some (39,false),.not (.t 48)⟩,⟨none,.pick (.t 39) (.k (.bool true)) (.t 49)⟩] [] (.t 50) (.seq (.ops [] [⟨none,.asg 1 (.k (.bool false))⟩] []) .ret) .skip) (.seq (.opc [] [⟨none,.mv (.v 0)⟩,⟨none,.nck (.t 0)⟩,⟨none,.fA 3 (.t 1)⟩,⟨none,.ld (.t 2)⟩,⟨none,.len (.t 3)⟩,⟨none,.bin .gtr (.t 4) (.i 8)⟩,⟨none,.mv (.t 5)⟩,⟨some (6,false),.mv (.v 0)⟩,⟨some (6,false),.nck (.t 7)⟩,⟨some (6,false),.fA 4 (.t 8)⟩,⟨some (6,false),.ld (.t 9)⟩,⟨some (6,false),.len (.t 10)⟩,⟨some (6,false),.mv (.v 0)⟩,⟨some (6,false),.nck (.t 12)⟩,⟨some (6,false),.fA 3 (.t 13)⟩,⟨some (6,false),.ld (.t 14)⟩,⟨some (6,false),.len (.t 15)⟩,⟨some (6,false),.bin .neq (.t 11) (.t 16)⟩,⟨none,.pick (.t 6) (.k (.bool true)) (.t 17)⟩] [] (.t 18) (.seq (.ops [] [⟨none,.asg 1 (.k (.bool false))⟩] []) .ret) .skip) (.seq (.seq (.ops [9,10] [⟨none,.mv (.v 0)⟩,⟨none,.nck (.t 0)⟩,⟨none,.fA 3 (.t 1)⟩,⟨none,.ld (.t 2)⟩,⟨none,.len (.t 3)⟩,⟨none,.asg 11 (.i 0)⟩] [(9,3),(10,4)]) (.block 0 (.loop (.opq [] [⟨none,.bin .lss (.v 11) (.v 10)⟩] [] (.t 0) .skip (.exit 0) (.seq (.block 1 (.seq (.ops [3] [⟨none,.mv (.v 11)⟩,⟨none,.idxA 2 (.v 9) (.v 11)⟩,⟨none,.lda 2 (.t 1)⟩,⟨none,.alc [.int .i64 0,.nils (.int .i64 0)]⟩,⟨none,.asg 2 (.t 0)⟩,⟨none,.stn 2 (.t 3) (.t 2)⟩] [(3,3)]) (.seq (.ops [4] [⟨none,.mv (.v 0)⟩,⟨none,.nck (.t 0)⟩,⟨none,.fA 4 (.t 1)⟩,⟨none,.ld (.t 2)⟩,⟨none,.mv (.v 2)⟩,⟨none,.idxA 2 (.t 3) (.t 4)⟩,⟨none,.lda 2 (.t 5)⟩,⟨none,.alc [.int .i64 0,.nils (.int .i64 0)]⟩,⟨none,.stn 2 (.t 7) (.t 6)⟩] [(4,7)]) (.seq (.ops [] [⟨none,.mv (.v 0)⟩,⟨none,.lda 2 (.v 3)⟩,⟨none,.call 123 [(.t 0),(.t 1)]⟩,⟨none,.mv (.t 2)⟩,⟨none,.ext 0 (.t 3)⟩,⟨none,.ext 1 (.t 3)⟩,⟨none,.asg 5 (.t 4)⟩,⟨none,.asg 6 (.t 5)⟩] []) (.seq (.ops [] [⟨none,.mv (.v 0)⟩,⟨none,.lda 2 (.v 4)⟩,⟨none,.call 123 [(.t 0),(.t 1)]⟩,⟨none,.mv (.t 2)⟩,⟨none,.ext 0 (.t 3)⟩,⟨none,.ext 1 (.t 3)⟩,⟨none,.asg 7 (.t 4)⟩,⟨none,.asg 8 (.t 5)⟩] []) (.opc [] [⟨none,.mv (.v 6)⟩,⟨none,.not (.t 0)⟩,⟨none,.mv (.t 1)⟩,⟨some (2,false),.mv (.v 8)⟩,⟨some (2,false),.not (.t 3)⟩,⟨none,.pick (.t 2) (.k (.bool true)) (.t 4)⟩,⟨none,.mv (.t 5)⟩,⟨some (6,false),.fA 0 (.v 3)⟩,⟨some (6,false),.ld (.t 7)⟩,⟨some (6,false),.fA 0 (.v 4)⟩,⟨some (6,false),.ld (.t 9)⟩,⟨some (6,false),.bin .neq (.t 8) (.t 10)⟩,⟨none,.pick (.t 6) (.k (.bool true)) (.t 11)⟩,⟨none,.mv (.t 12)⟩,⟨some (13,false),.mv (.v 5)⟩,⟨some (13,false),.mv (.v 7)⟩,⟨some (13,false),.bin .neq (.t 14) (.t 15)⟩,⟨none,.pick (.t 13) (.k (.bool true)) (.t 16)⟩] [] (.t 17) (.seq (.ops [] [⟨none,.asg 1 (.k (.bool false))⟩] []) .ret) .skip)))))) (.ops [] [⟨none,.bin .add (.v 11) (.i 1)⟩,⟨none,.asg 11 (.t 0)⟩] [])))))) (.seq (.ops [] [⟨none,.asg 1 (.k (.bool true))⟩] []) .ret)))))
def tr_impl_Schema_isSchema:List Nat:=[0,2,3,4,5,6,7,8,9,83,84,85]
def rs_impl_Schema_isSchema:List RS:=[.t 1]
theorem ok_impl_Schema_isSchema:fnOk Go.Proofs.Tryz.prog Go.Proofs.Tryz.f103 tr_impl_Schema_isSchema c_impl_Schema_isSchema 1 rs_impl_Schema_isSchema=true:=by decide +kernel
theorem ret_impl_Schema_isSchema (s:Sch):Ret Go.Proofs.Tryz.prog 103 [.v (.ptr s.cells)] (.bool s.ok):=by
 refine ret_wf fun hw=>?_
 simp only [argsWf,wfd_lst,Sch.cells,D.wfd,wfdL] at hw
 refine ret_fn Go.Proofs.Tryz.func103 ok_impl_Schema_isSchema rfl (show 1<500 by decide) rfl ?_;unfold c_impl_Schema_isSchema tr_impl_Schema_isSchema rs_impl_Schema_isSchema;simp only [go_sem,Nat.reduceLT,Nat.reduceAdd,Nat.reduceSub,↓reduceIte]
 refine call_of (ret_impl_inRange _ _ _) rfl (.inl rfl) ?_
 simp only [go_sem,Nat.reduceLT,Nat.reduceAdd,Nat.reduceSub,↓reduceIte]
 refine ⟨fun h=>by simpa using h,(fun h=>by simp only [Bool.or_eq_false_iff,Bool.and_eq_true,Bool.not_eq_true',Bool.not_eq_false'] at h ⊢;exact h),?_⟩
 refine callg_of (fun hg=>ret_impl_within s.nd s.fr (by simp only [Bool.and_eq_true] at hg;have:=hg.1.1;unfold inR at this;simp at this;omega)) rfl (fun h=>h) (.inl rfl) ?_
 simp only [go_sem,Nat.reduceLT,Nat.reduceAdd,Nat.reduceSub,↓reduceIte]
 refine ⟨fun h=>by simpa using h,?_⟩
 refine callg_of (fun hg=>ret_impl_within s.nd s.to (by simp only [Bool.and_eq_true] at hg;have:=hg.1.1.1;unfold inR at this;simp at this;omega)) rfl (fun h=>h) (.inl rfl) ?_
 simp only [go_sem,Nat.reduceLT,Nat.reduceAdd,Nat.reduceSub,↓reduceIte]
 have e1:s.ok1=!(!inR s.nd 0 8 || decide ((8:Int)<(s.fr.length:Int)) || ((s.to.length:Int) != (s.fr.length:Int)) || !mapB s.nd s.fr || !mapB s.nd s.to):=by
  unfold Sch.ok1
  have a1:decide (s.fr.length≤8)=!decide ((8:Int)<(s.fr.length:Int)):=by rw [← decide_not];exact decide_eq_decide.2 (by omega)
  have a2:decide (s.to.length=s.fr.length)=!((s.to.length:Int) != (s.fr.length:Int)):=by
   by_cases h:s.to.length=s.fr.length<;>simp [h]<;>omega
  rw [a1,a2]
  cases inR s.nd 0 8<;>cases decide ((8:Int)<(s.fr.length:Int))<;>cases ((s.to.length:Int) != (s.fr.length:Int))<;>cases mapB s.nd s.fr<;>cases mapB s.nd s.to<;>rfl
 have e2:s.ok2=!(decide ((8:Int)<(s.lf.length:Int)) || ((s.rt.length:Int) != (s.lf.length:Int))):=by
  unfold Sch.ok2
  have a1:decide (s.lf.length≤8)=!decide ((8:Int)<(s.lf.length:Int)):=by rw [← decide_not];exact decide_eq_decide.2 (by omega)
  have a2:decide (s.rt.length=s.lf.length)=!((s.rt.length:Int) != (s.lf.length:Int)):=by
   by_cases h:s.rt.length=s.lf.length<;>simp [h]<;>omega
  rw [a1,a2,Bool.not_or]
 refine ⟨fun h=>by simpa using h,fun h=>?_,fun h=>⟨fun h2=>by simpa using h2,fun h2=>?_,fun h2=>?_⟩⟩
 ·unfold Sch.ok;rw [e1,h];rfl
 ·unfold Sch.ok;rw [e2,h2];simp
 rw [h] at e1
 rw [h2] at e2
 have hto:s.to.length=s.fr.length:=by have:=e1;simp [Sch.ok1] at this;exact this.2.2.1
 have hn : 0≤s.nd:=by have:=e1;simp [Sch.ok1,inR] at this;omega
 have hrt:s.rt.length=s.lf.length:=by have:=e2;simp [Sch.ok2] at this;exact this.2
 have hl:s.lf.length≤maxLen:=hw.1.2.2.2.1.1
 clear h h2
 refine loop_set [2,3,4,5,6,7,8] (fun (i:Nat)=>[(11,.int .i64 i)]) (fun i=>i≤s.lf.length∧s.eqs i=true) (fun i=>s.lf.length-i) 0 (by simp only [go_sem,Nat.reduceLT,↓reduceIte];rfl) ⟨Nat.zero_le _,rfl⟩ rfl ?_
 rintro i ⟨hi,ha⟩
 simp only [go_sem,Nat.reduceLT,Nat.reduceAdd,Nat.reduceSub,Nat.reduceLeDiff,↓reduceIte]
 refine ⟨fun h=>⟨h,by omega,call_of (ret_impl_Schema_end s (s.lf.getD i Pth.zero) hto hn) rfl (.inl (by cases s.endO (s.lf.getD i Pth.zero)<;>rfl)) ?_⟩,fun h=>?_⟩
 ·have hE:=eqs_succ (s:=s) (n:=i)
  unfold Sch.eqB at hE
  have neg:s.eqs (i+1)=false→false=s.ok:=fun hf=>by
   unfold Sch.ok
   rw [e1,e2]
   symm
   simp only [Bool.not_false,Bool.true_and]
   unfold Sch.eqs at hf ⊢
   rw [List.all_eq_false] at hf ⊢
   obtain ⟨x,h1,h2⟩:=hf
   exact ⟨x,by rw [List.mem_range] at h1 ⊢;omega,h2⟩
  have pos:s.eqs (i+1)=true→i+1≤s.lf.length∧s.eqs (i+1)=true:=fun hp=>⟨h,hp⟩
  cases hp:s.endO (s.lf.getD i Pth.zero) with
  | none =>
   rw [hp,ha] at hE
   have hE':=neg (by rw [hE];cases s.endO (s.rt.getD i Pth.zero)<;>rfl)
   simp only [folD]
   simp only [go_sem,Nat.reduceLT,Nat.reduceAdd,Nat.reduceSub,↓reduceIte]
   refine call_of (ret_impl_Schema_end s (s.rt.getD i Pth.zero) hto hn) rfl (.inl (by cases s.endO (s.rt.getD i Pth.zero)<;>rfl)) ?_
   cases hq:s.endO (s.rt.getD i Pth.zero)<;>simp only [folD]<;>simp only [go_sem,Nat.reduceLT,Nat.reduceAdd,Nat.reduceSub,Nat.reduceLeDiff,↓reduceIte]
   all_goals exact hE'
  | some a =>
   rw [hp,ha] at hE
   simp only [folD]
   simp only [go_sem,Nat.reduceLT,Nat.reduceAdd,Nat.reduceSub,↓reduceIte]
   refine call_of (ret_impl_Schema_end s (s.rt.getD i Pth.zero) hto hn) rfl (.inl (by cases s.endO (s.rt.getD i Pth.zero)<;>rfl)) ?_
   cases hq:s.endO (s.rt.getD i Pth.zero)<;>simp only [folD]<;>simp only [go_sem,Nat.reduceLT,Nat.reduceAdd,Nat.reduceSub,Nat.reduceLeDiff,↓reduceIte]
   ·rw [hq] at hE;exact neg hE
   ·rename_i b
    rw [hq] at hE
    simp only [Bool.true_and] at hE
    refine ⟨fun h=>by simpa using h,fun h=>neg ?_,fun h=>?_⟩
    ·rw [hE,Bool.and_eq_false_iff]
     simp only [Bool.or_eq_true,bne_iff_ne] at h
     exact h.imp beq_eq_false_iff_ne.2 beq_eq_false_iff_ne.2
    ·simp only [Bool.or_eq_false_iff,bne_eq_false_iff_eq] at h
     exact ⟨i+1,pos (by rw [hE,Bool.and_eq_true];exact ⟨beq_iff_eq.2 h.1,beq_iff_eq.2 h.2⟩),by omega,by rw [wrap_lt (by omega) hl]⟩
 ·rw [show i=s.lf.length by omega] at ha
  unfold Sch.ok
  rw [e1,e2,ha]
  rfl
end Go.D3
