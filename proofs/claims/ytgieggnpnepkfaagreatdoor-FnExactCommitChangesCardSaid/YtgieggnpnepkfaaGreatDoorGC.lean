/- CONTRACTS: words that are split,the program's side. -/
import Derived.Test.YtgieggnpnepkfaaGreatDoorGB
namespace Go.D3
open Go
set_option maxRecDepth 100000
def outsP (fr:List Int) (x:Int) (i:Nat):List Int:=((List.range i).filter fun e=>fr.getD e 0 == x) |>.map fun e:Nat=>(e:Int)
theorem outsP_succ {fr:List Int} {x:Int} {i:Nat}:outsP fr x (i+1)=outsP fr x i++(if fr.getD i 0=x then [(i:Int)] else []):=by
 unfold outsP
 rw [List.range_succ,List.filter_append,List.map_append]
 congr 1
 by_cases h:fr.getD i 0=x
 ·rw [if_pos h,List.filter_cons_of_pos (by simpa using h)];rfl
 ·rw [if_neg h,List.filter_cons_of_neg (by simpa using h)];rfl
theorem outsP_len {fr:List Int} {x:Int} {i:Nat}:(outsP fr x i).length≤i:=by
 unfold outsP
 rw [List.length_map]
 exact Nat.le_trans (List.length_filter_le _ _) (by simp)
def c_impl_Schema_outOf:C := (.seq (.ops [] [⟨none,.asg 2 (.k (.nils (.int .i64 0)))⟩] []) (.seq (.ops [] [⟨none,.bldS (.int .i64 0) 0 []⟩,⟨none,.asg 3 (.t 0)⟩] []) (.seq (.seq (.ops [6,7] [⟨none,.mv (.v 0)⟩,⟨none,.nck (.t 0)⟩,⟨none,.fA 1 (.t 1)⟩,⟨none,.ld (.t 2)⟩,⟨none,.len (.t 3)⟩,⟨none,.asg 8 (.i 0)⟩] [(6,3),(7,4)]) (.block 0 (.loop (.opq [] [⟨none,.bin .lss (.v 8) (.v 7)⟩] [] (.t 0) .skip (.exit 0) (.seq (.block 1 (.seq (.ops [] [⟨none,.mv (.v 8)⟩,⟨none,.idxA 1 (.v 6) (.v 8)⟩,⟨none,.ld (.t 1)⟩,⟨none,.asg 4 (.t 0)⟩,⟨none,.asg 5 (.t 2)⟩] []) (.opc [] [⟨none,.mv (.v 1)⟩,⟨none,.mv (.v 5)⟩,⟨none,.bin .eql (.t 0) (.t 1)⟩] [] (.t 2) (.ops [] [⟨none,.mv (.v 3)⟩,⟨none,.mv (.v 4)⟩,⟨none,.bldS (.int .i64 0) 1 [(0,(.t 1))]⟩,⟨none,.app 1 8 (.t 0) (.t 2)⟩,⟨none,.asg 3 (.t 3)⟩] []) .skip))) (.ops [] [⟨none,.bin .add (.v 8) (.i 1)⟩,⟨none,.asg 8 (.t 0)⟩] [])))))) (.seq (.ops [] [⟨none,.mv (.v 3)⟩,⟨none,.asg 2 (.t 0)⟩] []) .ret))))
def tr_impl_Schema_outOf:List Nat:=[0,1,4,5,6,7,12,13,14]
def rs_impl_Schema_outOf:List RS:=[.t 2]
theorem ok_impl_Schema_outOf:fnOk Go.Proofs.Tryz.prog Go.Proofs.Tryz.f74 tr_impl_Schema_outOf c_impl_Schema_outOf 2 rs_impl_Schema_outOf=true:=by decide +kernel
theorem ret_impl_Schema_outOf (s:Sch) (x:Int) (h8:s.fr.length≤8):Ret Go.Proofs.Tryz.prog 74 [.v (.ptr s.cells),.v (.int .i64 x)] (ints (outsP s.fr x s.fr.length)):=by
 refine ret_fn Go.Proofs.Tryz.func74 ok_impl_Schema_outOf rfl (show 2<500 by decide) rfl ?_;unfold c_impl_Schema_outOf tr_impl_Schema_outOf rs_impl_Schema_outOf;simp only [go_sem,Nat.reduceLT,Nat.reduceAdd,Nat.reduceSub,↓reduceIte]
 refine loop_set [4,5] (fun (i:Nat)=>[(8,.int .i64 i),(3,.o (ints (outsP s.fr x i)))]) (fun i=>i≤s.fr.length) (fun i=>s.fr.length-i) 0 (by simp only [go_sem,Nat.reduceLT,↓reduceIte];rfl) (Nat.zero_le _) rfl ?_
 intro i hi
 simp only [go_sem,Nat.reduceLT,Nat.reduceAdd,Nat.reduceSub,Nat.reduceBEq,↓reduceIte]
 have hl:=outsP_len (fr:=s.fr) (x:=x) (i:=i)
 refine ⟨fun h=>⟨h,fun h1=>⟨by omega,i+1,h,by omega,?_⟩,fun h1=>⟨i+1,h,by omega,?_⟩⟩,fun h=>by rw [show i=s.fr.length by omega]⟩
 ·rw [outsP_succ,if_pos (by simpa using Eq.symm (by simpa using h1)),wrap_lt h (by simp only [maxLen];omega)]
 ·rw [outsP_succ,if_neg (by simpa using Ne.symm (by simpa using h1)),List.append_nil,wrap_lt h (by simp only [maxLen];omega)]
def c_impl_fitting:C := (.seq (.ops [] [⟨none,.asg 1 (.k (.bool false))⟩] []) (.seq (.ops [] [⟨none,.mv (.v 0)⟩,⟨none,.call 113 [(.t 0),(.i 17)]⟩,⟨none,.asg 1 (.t 1)⟩] []) .ret))
def tr_impl_fitting:List Nat:=[0,2]
def rs_impl_fitting:List RS:=[.t 1]
theorem ok_impl_fitting:fnOk Go.Proofs.Tryz.prog Go.Proofs.Tryz.f93 tr_impl_fitting c_impl_fitting 1 rs_impl_fitting=true:=by decide +kernel
theorem ret_impl_fitting (l:List Int):Ret Go.Proofs.Tryz.prog 93 [.v (ints l)] (.bool (mapB 17 l)):=by
 refine ret_fn Go.Proofs.Tryz.func93 ok_impl_fitting rfl (show 1<500 by decide) rfl ?_;unfold c_impl_fitting tr_impl_fitting rs_impl_fitting;simp only [go_sem,Nat.reduceLT,Nat.reduceAdd,Nat.reduceSub,↓reduceIte]
 refine call_of (ret_impl_within 17 l (by decide)) rfl (.inl rfl) ?_
 simp only [go_sem,Nat.reduceLT,Nat.reduceAdd,Nat.reduceSub,↓reduceIte]
def leadF (mp:List (List Int)):Int→List Int→Int
 | r,[]=>r
 | r,e::l=>leadF mp ((mp.getD e.toNat []).getD r.toNat 0) l
def leadOk (mp:List (List Int)):Int→List Int→Prop
 | _,[]=>True
 | r,e::l=>(0≤e∧e<mp.length)∧(0≤r∧r<(mp.getD e.toNat []).length)∧leadOk mp ((mp.getD e.toNat []).getD r.toNat 0) l
theorem lead_drop {mp:List (List Int)} {l:List Int} {r:Int} {i:Nat} (h:i<l.length):leadF mp r (l.drop i)=leadF mp ((mp.getD (l.getD i 0).toNat []).getD r.toNat 0) (l.drop (i+1)) ∧
  (leadOk mp r (l.drop i)→(0≤l.getD i 0∧l.getD i 0<mp.length)∧(0≤r∧r<(mp.getD (l.getD i 0).toNat []).length)∧leadOk mp ((mp.getD (l.getD i 0).toNat []).getD r.toNat 0) (l.drop (i+1))):=by
 rw [List.drop_eq_getElem_cons h,leadF,leadOk,getD_lt h]
 exact ⟨rfl,id⟩
def c_impl_lead:C := (.seq (.ops [] [⟨none,.asg 3 (.i 0)⟩] []) (.seq (.seq (.ops [6] [⟨none,.asg 5 (.v 1)⟩,⟨none,.len (.v 5)⟩,⟨none,.asg 7 (.i 0)⟩] [(6,1)]) (.block 0 (.loop (.opq [] [⟨none,.bin .lss (.v 7) (.v 6)⟩] [] (.t 0) .skip (.exit 0) (.seq (.block 1 (.seq (.ops [] [⟨none,.idxA 1 (.v 5) (.v 7)⟩,⟨none,.ld (.t 0)⟩,⟨none,.asg 4 (.t 1)⟩] []) (.ops [] [⟨none,.mv (.v 0)⟩,⟨none,.mv (.v 4)⟩,⟨none,.idxA 1 (.t 0) (.t 1)⟩,⟨none,.ld (.t 2)⟩,⟨none,.mv (.v 2)⟩,⟨none,.idxA 1 (.t 3) (.t 4)⟩,⟨none,.ld (.t 5)⟩,⟨none,.asg 2 (.t 6)⟩] []))) (.ops [] [⟨none,.bin .add (.v 7) (.i 1)⟩,⟨none,.asg 7 (.t 0)⟩] [])))))) (.seq (.ops [] [⟨none,.mv (.v 2)⟩,⟨none,.asg 3 (.t 0)⟩] []) .ret)))
def tr_impl_lead:List Nat:=[0,1,2,6,8,9,10,11]
def rs_impl_lead:List RS:=[.t 3]
theorem ok_impl_lead:fnOk Go.Proofs.Tryz.prog Go.Proofs.Tryz.f95 tr_impl_lead c_impl_lead 3 rs_impl_lead=true:=by decide +kernel
theorem ret_impl_lead (mp:List (List Int)) (l:List Int) (r:Int) (hok:leadOk mp r l):Ret Go.Proofs.Tryz.prog 95 [.v (intss mp),.v (ints l),.v (.int .i64 r)] (.int .i64 (leadF mp r l)):=by
 refine ret_wf fun hw=>?_
 simp only [argsWf,wfd_lst] at hw
 have hl:l.length≤maxLen:=hw.2.1.1
 refine ret_fn Go.Proofs.Tryz.func95 ok_impl_lead rfl (show 3<500 by decide) rfl ?_;unfold c_impl_lead tr_impl_lead rs_impl_lead;simp only [go_sem,Nat.reduceLT,Nat.reduceAdd,Nat.reduceSub,↓reduceIte]
 refine loop_set [4] (fun (p:Nat×Int)=>[(2,.int .i64 p.2),(7,.int .i64 p.1)]) (fun p=>p.1≤l.length∧leadF mp p.2 (l.drop p.1)=leadF mp r l∧leadOk mp p.2 (l.drop p.1)) (fun p=>l.length-p.1) (0,r) (by simp only [go_sem,Nat.reduceLT,↓reduceIte];rfl) ⟨Nat.zero_le _,rfl,hok⟩ rfl ?_
 rintro ⟨i,y⟩ ⟨hi,ha,hb⟩
 simp only [go_sem,Nat.reduceLT,Nat.reduceAdd,Nat.reduceSub,↓reduceIte]
 simp only at hi ha hb
 refine ⟨fun h=>?_,fun h=>?_⟩
 ·obtain ⟨e1,e2⟩:=lead_drop (mp:=mp) (r:=y) h
  obtain ⟨b1,b2,b3⟩:=e2 hb
  exact ⟨h,b1,b2,(i+1,(mp.getD (l.getD i 0).toNat []).getD y.toNat 0),⟨h,e1▸ha,b3⟩,by show l.length-(i+1)<l.length-i;omega,by rw [wrap_lt h hl]⟩
 ·rw [show i=l.length by omega,List.drop_length] at ha
  rw [← ha];rfl
def Sch.mapOk (s:Sch) (sz:List Int) (mp:List (List Int)) (e:Nat):Bool:=((mp.getD e []).length:Int) == sz.getD (s.fr.getD e 0).toNat 0&&mapB (sz.getD (s.to.getD e 0).toNat 0) (mp.getD e [])
def Sch.rowsB (s:Sch) (sz:List Int) (mp:List (List Int)):Bool:=((sz.length:Int) == s.nd&&mapB 17 sz&&(mp.length == s.fr.length))&&(List.range mp.length).all (s.mapOk sz mp)
theorem mapB_get {n:Int} {l:List Int} {i:Nat} (h:mapB n l=true) (hi:i<l.length) : 0≤l.getD i 0∧l.getD i 0<n:=by
 unfold mapB at h
 have:=List.all_eq_true.1 h _ (List.getElem_mem hi)
 rw [getD_lt hi]
 simpa using this
def c_impl_Schema_hasRows:C := (.seq (.ops [] [⟨none,.asg 3 (.k (.bool false))⟩] []) (.seq (.opc [] [⟨none,.mv (.v 1)⟩,⟨none,.len (.t 0)⟩,⟨none,.mv (.v 0)⟩,⟨none,.nck (.t 2)⟩,⟨none,.fA 0 (.t 3)⟩,⟨none,.ld (.t 4)⟩,⟨none,.bin .neq (.t 1) (.t 5)⟩,⟨none,.mv (.t 6)⟩,⟨some (7,false),.mv (.v 1)⟩,⟨some (7,false),.call 93 [(.t 8)]⟩,⟨some (7,false),.not (.t 9)⟩,⟨none,.pick (.t 7) (.k (.bool true)) (.t 10)⟩,⟨none,.mv (.t 11)⟩,⟨some (12,false),.mv (.v 2)⟩,⟨some (12,false),.len (.t 13)⟩,⟨some (12,false),.mv (.v 0)⟩,⟨some (12,false),.nck (.t 15)⟩,⟨some (12,false),.fA 1 (.t 16)⟩,⟨some (12,false),.ld (.t 17)⟩,⟨some (12,false),.len (.t 18)⟩,⟨some (12,false),.bin .neq (.t 14) (.t 19)⟩,⟨none,.pick (.t 12) (.k (.bool true)) (.t 20)⟩] [] (.t 21) (.seq (.ops [] [⟨none,.asg 3 (.k (.bool false))⟩] []) .ret) .skip) (.seq (.seq (.ops [7] [⟨none,.asg 6 (.v 2)⟩,⟨none,.len (.v 6)⟩,⟨none,.asg 8 (.i 0)⟩] [(7,1)]) (.block 0 (.loop (.opq [] [⟨none,.bin .lss (.v 8) (.v 7)⟩] [] (.t 0) .skip (.exit 0) (.seq (.block 1 (.seq (.ops [] [⟨none,.mv (.v 8)⟩,⟨none,.idxA 1 (.v 6) (.v 8)⟩,⟨none,.ld (.t 1)⟩,⟨none,.asg 4 (.t 0)⟩,⟨none,.asg 5 (.t 2)⟩] []) (.opc [] [⟨none,.mv (.v 5)⟩,⟨none,.mv (.v 1)⟩,⟨none,.mv (.v 0)⟩,⟨none,.nck (.t 2)⟩,⟨none,.fA 1 (.t 3)⟩,⟨none,.ld (.t 4)⟩,⟨none,.mv (.v 4)⟩,⟨none,.idxA 1 (.t 5) (.t 6)⟩,⟨none,.ld (.t 7)⟩,⟨none,.idxA 1 (.t 1) (.t 8)⟩,⟨none,.ld (.t 9)⟩,⟨none,.mv (.v 1)⟩,⟨none,.mv (.v 0)⟩,⟨none,.nck (.t 12)⟩,⟨none,.fA 2 (.t 13)⟩,⟨none,.ld (.t 14)⟩,⟨none,.mv (.v 4)⟩,⟨none,.idxA 1 (.t 15) (.t 16)⟩,⟨none,.ld (.t 17)⟩,⟨none,.idxA 1 (.t 11) (.t 18)⟩,⟨none,.ld (.t 19)⟩,⟨none,.call 94 [(.t 0),(.t 10),(.t 20)]⟩,⟨none,.not (.t 21)⟩] [] (.t 22) (.seq (.ops [] [⟨none,.asg 3 (.k (.bool false))⟩] []) .ret) .skip))) (.ops [] [⟨none,.bin .add (.v 8) (.i 1)⟩,⟨none,.asg 8 (.t 0)⟩] [])))))) (.seq (.ops [] [⟨none,.asg 3 (.k (.bool true))⟩] []) .ret))))
def tr_impl_Schema_hasRows:List Nat:=[0,1,2,6,7,8,31,32,33]
def rs_impl_Schema_hasRows:List RS:=[.t 3]
theorem ok_impl_Schema_hasRows:fnOk Go.Proofs.Tryz.prog Go.Proofs.Tryz.f75 tr_impl_Schema_hasRows c_impl_Schema_hasRows 3 rs_impl_Schema_hasRows=true:=by decide +kernel
theorem ret_impl_Schema_hasRows (s:Sch) (sz:List Int) (mp:List (List Int)) (hs:s.ok1=true):Ret Go.Proofs.Tryz.prog 75 [.v (.ptr s.cells),.v (ints sz),.v (intss mp)] (.bool (s.rowsB sz mp)):=by
 have hs1:=hs
 simp only [Sch.ok1,Bool.and_eq_true,decide_eq_true_eq] at hs1
 obtain ⟨h1,h2,hto,hf,ht⟩:=hs1
 have hn : 0≤s.nd∧s.nd≤8:=by unfold inR at h1;simpa using h1
 refine ret_fn Go.Proofs.Tryz.func75 ok_impl_Schema_hasRows rfl (show 3<500 by decide) rfl ?_;unfold c_impl_Schema_hasRows tr_impl_Schema_hasRows rs_impl_Schema_hasRows;simp only [go_sem,Nat.reduceLT,Nat.reduceAdd,Nat.reduceSub,↓reduceIte]
 refine callg_of (fun _=>ret_impl_fitting sz) rfl (fun h=>h) (.inl rfl) ?_
 simp only [go_sem,Nat.reduceLT,Nat.reduceAdd,Nat.reduceSub,↓reduceIte]
 have e1:s.rowsB sz mp=(!(((sz.length:Int) != s.nd) || !mapB 17 sz || ((mp.length:Int) != (s.fr.length:Int)))&&(List.range mp.length).all (s.mapOk sz mp)):=by
  unfold Sch.rowsB
  have a2:(mp.length == s.fr.length)=!((mp.length:Int) != (s.fr.length:Int)):=by
   rw [Bool.eq_iff_iff];simp only [beq_iff_eq,Bool.not_eq_true',bne_eq_false_iff_eq];omega
  have a3:((sz.length:Int) == s.nd)=!((sz.length:Int) != s.nd):=by unfold bne;rw [Bool.not_not]
  rw [a2,a3,Bool.not_or,Bool.not_or,Bool.not_not]
 refine ⟨fun h=>by simpa using h,(fun h=>by simp only [Bool.or_eq_false_iff,Bool.and_eq_true,Bool.not_eq_true',Bool.not_eq_false'] at h ⊢;exact h),fun h=>by rw [e1,h];rfl,fun h=>?_⟩
 rw [h] at e1
 simp only [Bool.or_eq_false_iff,bne_eq_false_iff_eq,Bool.not_eq_false'] at h
 obtain ⟨⟨hsz,h17⟩,hmp⟩:=h
 refine loop_set [4,5] (fun (i:Nat)=>[(8,.int .i64 i)]) (fun i=>i≤mp.length∧(List.range i).all (s.mapOk sz mp)=true) (fun i=>mp.length-i) 0 (by simp only [go_sem,Nat.reduceLT,↓reduceIte];rfl) ⟨Nat.zero_le _,rfl⟩ rfl ?_
 rintro i ⟨hi,ha⟩
 simp only [go_sem,Nat.reduceLT,Nat.reduceAdd,Nat.reduceSub,↓reduceIte]
 refine ⟨fun h=>?_,fun h=>?_⟩
 ·have hfi:=mapB_get hf (show i<s.fr.length by omega)
  have hti:=mapB_get ht (show i<s.to.length by omega)
  have hnn : 0≤sz.getD (s.to.getD i 0).toNat 0:=(mapB_get h17 (show (s.to.getD i 0).toNat<sz.length by omega)).1
  refine ⟨h,by omega,by omega,by omega,by omega,call_of (ret_impl_isMapOf _ _ _ hnn) rfl (.inl rfl) ?_⟩
  simp only [go_sem,Nat.reduceLT,Nat.reduceAdd,Nat.reduceSub,↓reduceIte]
  have hsucc:(List.range (i+1)).all (s.mapOk sz mp)=s.mapOk sz mp i:=by rw [List.range_succ,List.all_append,ha];simp
  have neg:s.mapOk sz mp i=false→false=s.rowsB sz mp:=fun hf=>by
   rw [e1]
   symm
   rw [Bool.not_false,Bool.true_and,List.all_eq_false]
   exact ⟨i,List.mem_range.2 h,by rw [hf];simp⟩
  refine ⟨fun h2=>neg (by rw [Bool.not_eq_true'] at h2;exact h2),fun h2=>⟨i+1,⟨h,by rw [hsucc];rw [Bool.not_eq_false'] at h2;exact h2⟩,by omega,by rw [wrap_lt h (by simp only [maxLen];omega)]⟩⟩
 ·rw [show i=mp.length by omega] at ha
  rw [e1,ha];rfl
section
variable {β:Type} {f:Nat→Option β} {i n:Nat} {b:β}
theorem first_hit (h:i<n) (hp:(List.range i).findSome? f=none) (hi:f i=some b):(List.range n).findSome? f=some b:=by
 obtain ⟨m,rfl⟩:∃ m,n=(i+1)+m:=⟨n-(i+1),by omega⟩
 rw [List.range_add,List.findSome?_append,List.range_succ,List.findSome?_append,hp]
 simp [hi]
theorem first_step (hp:(List.range i).findSome? f=none) (hi:f i=none):(List.range (i+1)).findSome? f=none:=by
 rw [List.range_succ,List.findSome?_append,hp]
 simp [hi]
end
def brkRow (mp:List (List Int)) (p q:List Int) (m:Nat):Option Nat:=(List.range m).findSome? fun r:Nat=>if leadF mp r p=leadF mp r q then none else some r
def Sch.brk (s:Sch) (sz:List Int) (mp:List (List Int)) (n:Nat):Option (Nat×Nat) :=
 (List.range n).findSome? fun i=>(brkRow mp (s.lf.getD i Pth.zero).ed (s.rt.getD i Pth.zero).ed (sz.getD (s.lf.getD i Pth.zero).st.toNat 0).toNat).map fun r=>(i,r)
def brkD:Option (Nat×Nat)→D
 | some (i,r)=>.tup [.int .i64 i,.int .i64 r]
 | none=>.tup [.int .i64 (-1),.int .i64 0]
def Sch.brkOk (s:Sch) (sz:List Int) (mp:List (List Int)):Prop :=
 s.rt.length=s.lf.length∧∀ i,i<s.lf.length→(0≤(s.lf.getD i Pth.zero).st∧(s.lf.getD i Pth.zero).st<sz.length)∧∀ r:Nat,(r:Int)<sz.getD (s.lf.getD i Pth.zero).st.toNat 0 →
  leadOk mp r (s.lf.getD i Pth.zero).ed∧leadOk mp r (s.rt.getD i Pth.zero).ed
def c_impl_Schema_broken:C := (.seq (.ops [] [⟨none,.asg 3 (.i 0)⟩,⟨none,.asg 4 (.i 0)⟩] []) (.seq (.seq (.ops [8,9] [⟨none,.mv (.v 0)⟩,⟨none,.nck (.t 0)⟩,⟨none,.fA 3 (.t 1)⟩,⟨none,.ld (.t 2)⟩,⟨none,.len (.t 3)⟩,⟨none,.asg 10 (.i 0)⟩] [(8,3),(9,4)]) (.block 0 (.loop (.opq [] [⟨none,.bin .lss (.v 10) (.v 9)⟩] [] (.t 0) .skip (.exit 0) (.seq (.block 1 (.seq (.ops [6] [⟨none,.mv (.v 10)⟩,⟨none,.idxA 2 (.v 8) (.v 10)⟩,⟨none,.lda 2 (.t 1)⟩,⟨none,.alc [.int .i64 0,.nils (.int .i64 0)]⟩,⟨none,.asg 5 (.t 0)⟩,⟨none,.stn 2 (.t 3) (.t 2)⟩] [(6,3)]) (.seq (.ops [11] [⟨none,.mv (.v 1)⟩,⟨none,.fA 0 (.v 6)⟩,⟨none,.ld (.t 1)⟩,⟨none,.idxA 1 (.t 0) (.t 2)⟩,⟨none,.ld (.t 3)⟩,⟨none,.asg 12 (.i 0)⟩] [(11,4)]) (.block 2 (.loop (.opq [] [⟨none,.bin .lss (.v 12) (.v 11)⟩] [] (.t 0) .skip (.exit 2) (.seq (.block 3 (.seq (.ops [] [⟨none,.mv (.v 12)⟩,⟨none,.asg 7 (.t 0)⟩] []) (.opc [] [⟨none,.mv (.v 2)⟩,⟨none,.fA 1 (.v 6)⟩,⟨none,.ld (.t 1)⟩,⟨none,.mv (.v 7)⟩,⟨none,.call 95 [(.t 0),(.t 2),(.t 3)]⟩,⟨none,.mv (.v 2)⟩,⟨none,.mv (.v 0)⟩,⟨none,.nck (.t 6)⟩,⟨none,.fA 4 (.t 7)⟩,⟨none,.ld (.t 8)⟩,⟨none,.mv (.v 5)⟩,⟨none,.idxA 2 (.t 9) (.t 10)⟩,⟨none,.fA 1 (.t 11)⟩,⟨none,.ld (.t 12)⟩,⟨none,.mv (.v 7)⟩,⟨none,.call 95 [(.t 5),(.t 13),(.t 14)]⟩,⟨none,.bin .neq (.t 4) (.t 15)⟩] [] (.t 16) (.seq (.ops [] [⟨none,.mv (.v 5)⟩,⟨none,.mv (.v 7)⟩,⟨none,.asg 3 (.t 0)⟩,⟨none,.asg 4 (.t 1)⟩] []) .ret) .skip))) (.ops [] [⟨none,.bin .add (.v 12) (.i 1)⟩,⟨none,.asg 12 (.t 0)⟩] [])))))))) (.ops [] [⟨none,.bin .add (.v 10) (.i 1)⟩,⟨none,.asg 10 (.t 0)⟩] [])))))) (.seq (.ops [] [⟨none,.asg 3 (.i (-1))⟩,⟨none,.asg 4 (.i 0)⟩] []) .ret)))
def tr_impl_Schema_broken:List Nat:=[0,1,2,6,7,8,9,10,14,15,16,25,26]
def rs_impl_Schema_broken:List RS:=[.t 3,.t 4]
theorem ok_impl_Schema_broken:fnOk Go.Proofs.Tryz.prog Go.Proofs.Tryz.f76 tr_impl_Schema_broken c_impl_Schema_broken 3 rs_impl_Schema_broken=true:=by decide +kernel
theorem ret_impl_Schema_broken (s:Sch) (sz:List Int) (mp:List (List Int)) (hok:s.brkOk sz mp) (hsz:∀ x∈sz,x≤4611686018427387900):Ret Go.Proofs.Tryz.prog 76 [.v (.ptr s.cells),.v (ints sz),.v (intss mp)] (brkD (s.brk sz mp s.lf.length)):=by
 refine ret_wf fun hw=>?_
 simp only [argsWf,wfd_lst,Sch.cells,D.wfd,wfdL] at hw
 have hl:s.lf.length≤maxLen:=hw.1.2.2.2.1.1
 obtain ⟨hrt,hok⟩:=hok
 refine ret_fn Go.Proofs.Tryz.func76 ok_impl_Schema_broken rfl (show 3<500 by decide) rfl ?_;unfold c_impl_Schema_broken tr_impl_Schema_broken rs_impl_Schema_broken;simp only [go_sem,Nat.reduceLT,Nat.reduceAdd,Nat.reduceSub,↓reduceIte]
 refine loop_set [5,6,7,11,12] (fun (i:Nat)=>[(10,.int .i64 i)]) (fun i=>i≤s.lf.length∧s.brk sz mp i=none) (fun i=>s.lf.length-i) 0 (by simp only [go_sem,Nat.reduceLT,↓reduceIte];rfl) ⟨Nat.zero_le _,rfl⟩ rfl ?_
 rintro i ⟨hi,ha⟩
 simp only [go_sem,Nat.reduceLT,Nat.reduceAdd,Nat.reduceSub,Nat.reduceBEq,Nat.reduceLeDiff,↓reduceIte]
 refine ⟨fun h=>?_,fun h=>?_⟩
 ·obtain ⟨hst,hrow⟩:=hok i h
  refine ⟨h,hst,?_⟩
  have hms:sz.getD (s.lf.getD i Pth.zero).st.toNat 0≤4611686018427387900:=by
   have hlt:(s.lf.getD i Pth.zero).st.toNat<sz.length:=by omega
   rw [getD_lt hlt];exact hsz _ (List.getElem_mem _)
  have hbrk:∀ o,brkRow mp (s.lf.getD i Pth.zero).ed (s.rt.getD i Pth.zero).ed (sz.getD (s.lf.getD i Pth.zero).st.toNat 0).toNat=o→(match o with | some r=>s.brk sz mp s.lf.length=some (i,r) | none=>s.brk sz mp (i+1)=none):=by
   intro o ho
   cases o with
   | some r=>exact first_hit h ha (by rw [ho];rfl)
   | none=>exact first_step ha (by rw [ho];rfl)
  generalize hm:sz.getD (s.lf.getD i Pth.zero).st.toNat 0=m at hms hrow hbrk
  refine loop_set [7] (fun (r:Nat)=>[(12,.int .i64 r)]) (fun r=>r≤m.toNat∧brkRow mp (s.lf.getD i Pth.zero).ed (s.rt.getD i Pth.zero).ed r=none) (fun r=>m.toNat-r) 0 (by simp only [go_sem,Nat.reduceLT,↓reduceIte];rfl) ⟨Nat.zero_le _,rfl⟩ rfl ?_
  rintro r ⟨hr,hb⟩
  simp only [go_sem,Nat.reduceLT,Nat.reduceAdd,Nat.reduceSub,↓reduceIte]
  refine ⟨fun h2=>?_,fun h2=>?_⟩
  ·obtain ⟨o1,o2⟩:=hrow r h2
   refine call_of (ret_impl_lead mp _ r o1) rfl (.inl rfl) ?_
   simp only [go_sem,Nat.reduceLT,Nat.reduceAdd,Nat.reduceSub,↓reduceIte]
   refine ⟨by omega,call_of (ret_impl_lead mp _ r o2) rfl (.inl rfl) ?_⟩
   simp only [go_sem,Nat.reduceLT,Nat.reduceAdd,Nat.reduceSub,Nat.reduceLeDiff,↓reduceIte]
   refine ⟨fun h3=>?_,fun h3=>⟨r+1,⟨by omega,first_step hb (if_pos (by simpa using h3))⟩,by omega,by rw [wrap_small (by omega) (by omega)];rfl⟩⟩
   have:=hbrk _ (first_hit (show r<m.toNat by omega) hb (if_neg (by simpa using h3)))
   simp only at this
   rw [this];rfl
  ·have:=hbrk none (by rw [show m.toNat=r by omega];exact hb)
   simp only at this
   exact ⟨i+1,⟨h,this⟩,by omega,by rw [wrap_lt h hl]⟩
 ·rw [show i=s.lf.length by omega] at ha
  rw [ha];rfl
def c_impl_noData:C := (.seq (.ops [1] [⟨none,.alc [.nils (.int .i64 0),.nils (ints [])]⟩] [(1,0)]) (.seq (.ops [] [⟨none,.mv (.v 0)⟩,⟨none,.nck (.t 0)⟩,⟨none,.fA 0 (.t 1)⟩,⟨none,.ld (.t 2)⟩,⟨none,.mkS (.int .i64 0) 8 (.t 3) (.t 3)⟩,⟨none,.mv (.v 0)⟩,⟨none,.nck (.t 5)⟩,⟨none,.fA 1 (.t 6)⟩,⟨none,.ld (.t 7)⟩,⟨none,.len (.t 8)⟩,⟨none,.mkS (ints []) 24 (.t 9) (.t 9)⟩,⟨none,.bld [.nils (.int .i64 0),.nils (ints [])] [(0,1,(.t 4)),(1,1,(.t 10))]⟩,⟨none,.stn 2 (.v 1) (.t 11)⟩] []) .ret))
def tr_impl_noData:List Nat:=[0,2]
def rs_impl_noData:List RS:=[.c 1 2 true]
theorem ok_impl_noData:fnOk Go.Proofs.Tryz.prog Go.Proofs.Tryz.f63 tr_impl_noData c_impl_noData 1 rs_impl_noData=true:=by decide +kernel
theorem ret_impl_noData (s:Sch) (hn : 0≤s.nd) (hn8:s.nd≤8) (h8:s.fr.length≤8):Ret Go.Proofs.Tryz.prog 63 [.v (.ptr s.cells)] (Dat.d ⟨List.replicate s.nd.toNat 0,List.replicate s.fr.length []⟩):=by
 refine ret_fn Go.Proofs.Tryz.func63 ok_impl_noData rfl (show 1<500 by decide) rfl ?_;unfold c_impl_noData tr_impl_noData rs_impl_noData;simp only [go_sem,Nat.reduceLT,Nat.reduceAdd,Nat.reduceSub,Nat.reduceEqDiff,Nat.reduceBEq,Nat.reduceLeDiff,↓reduceIte]
 omega
def c_impl_data_copy:C := (.seq (.ops [2,1] [⟨none,.boxv 2 (.v 0)⟩,⟨none,.alc [.nils (.int .i64 0),.nils (ints [])]⟩] [(2,0),(1,1)]) (.seq (.ops [] [⟨none,.fA 0 (.v 2)⟩,⟨none,.ld (.t 0)⟩,⟨none,.call 71 [(.t 1)]⟩,⟨none,.fA 1 (.v 2)⟩,⟨none,.ld (.t 3)⟩,⟨none,.call 72 [(.t 4)]⟩,⟨none,.bld [.nils (.int .i64 0),.nils (ints [])] [(0,1,(.t 2)),(1,1,(.t 5))]⟩,⟨none,.stn 2 (.v 1) (.t 6)⟩] []) .ret))
def tr_impl_data_copy:List Nat:=[0,2,1]
def rs_impl_data_copy:List RS:=[.c 1 2 true]
theorem ok_impl_data_copy:fnOk Go.Proofs.Tryz.prog Go.Proofs.Tryz.f55 tr_impl_data_copy c_impl_data_copy 1 rs_impl_data_copy=true:=by decide +kernel
theorem ret_impl_data_copy (d:Dat) (h1:d.sz.length≤1048576) (h2:costL List.length d.mp≤1048576):Ret Go.Proofs.Tryz.prog 55 [.v (Dat.d d)] (Dat.d d):=by
 refine ret_fn Go.Proofs.Tryz.func55 ok_impl_data_copy rfl (show 1<500 by decide) rfl ?_;unfold c_impl_data_copy tr_impl_data_copy rs_impl_data_copy;simp only [go_sem,Nat.reduceLT,Nat.reduceAdd,Nat.reduceSub,↓reduceIte]
 refine call_of (ret_impl_clone d.sz h1) rfl (.inl (nv_ints _)) ?_
 simp only [go_sem,Nat.reduceLT,Nat.reduceAdd,Nat.reduceSub,↓reduceIte]
 refine call_of (ret_impl_clones d.mp h2) rfl (.inl (nv_intss _)) ?_
 simp only [go_sem,Nat.reduceLT,Nat.reduceAdd,Nat.reduceSub,Nat.reduceEqDiff,Nat.reduceBEq,Nat.reduceLeDiff,↓reduceIte]
 all_goals rfl
def Chg.okB (c:Chg):Bool:=if c.kd=1 then c.se == 0&&c.th == 0 else c.kd == 2
def c_impl_Change_isChange:C := (.seq (.ops [2] [⟨none,.boxv 4 (.v 0)⟩,⟨none,.asg 1 (.k (.bool false))⟩] [(2,0)]) (.seq (.seq (.ops [3] [⟨none,.fA 0 (.v 2)⟩,⟨none,.ld (.t 0)⟩] [(3,1)]) (.block 0 (.opc [] [⟨none,.bin .eql (.v 3) (.i 1)⟩,⟨none,.mv (.t 0)⟩] [] (.t 1) (.seq (.ops [] [⟨none,.fA 2 (.v 2)⟩,⟨none,.ld (.t 0)⟩,⟨none,.bin .eql (.t 1) (.i 0)⟩,⟨none,.mv (.t 2)⟩,⟨some (3,true),.fA 3 (.v 2)⟩,⟨some (3,true),.ld (.t 4)⟩,⟨some (3,true),.bin .eql (.t 5) (.i 0)⟩,⟨none,.pick (.t 3) (.t 6) (.k (.bool false))⟩,⟨none,.asg 1 (.t 7)⟩] []) .ret) (.opc [] [⟨none,.bin .eql (.v 3) (.i 2)⟩,⟨none,.mv (.t 0)⟩] [] (.t 1) (.seq (.ops [] [⟨none,.asg 1 (.k (.bool true))⟩] []) .ret) .skip)))) (.seq (.ops [] [⟨none,.asg 1 (.k (.bool false))⟩] []) .ret)))
def tr_impl_Change_isChange:List Nat:=[0,2,1,4]
def rs_impl_Change_isChange:List RS:=[.t 1]
theorem ok_impl_Change_isChange:fnOk Go.Proofs.Tryz.prog Go.Proofs.Tryz.f73 tr_impl_Change_isChange c_impl_Change_isChange 1 rs_impl_Change_isChange=true:=by decide +kernel
theorem ret_impl_Change_isChange (c:Chg):Ret Go.Proofs.Tryz.prog 73 [.v (Chg.d c)] (.bool c.okB):=by
 unfold Chg.okB
 refine ret_fn Go.Proofs.Tryz.func73 ok_impl_Change_isChange rfl (show 1<500 by decide) rfl ?_;unfold c_impl_Change_isChange tr_impl_Change_isChange rs_impl_Change_isChange;simp only [go_sem,Nat.reduceLT,Nat.reduceAdd,Nat.reduceSub,↓reduceIte]
 refine ⟨fun h=>by rw [if_pos h],fun h=>?_⟩
 rw [if_neg (by simpa using h)]
 exact ⟨fun h2=>by simp [h2],fun h2=>h2.symm⟩
end Go.D3
namespace Go.D3
open Go
set_option maxRecDepth 100000
def addF (mp:List (List Int)) (l:List Int):List (List Int):=l.foldl (fun m (e:Int)=>m.set e.toNat (m.getD e.toNat []++[-1])) mp
theorem addF_snoc {mp:List (List Int)} {l:List Int} {e:Int}:addF mp (l++[e])=(addF mp l).set e.toNat ((addF mp l).getD e.toNat []++[-1]):=by
 unfold addF;rw [List.foldl_append];rfl
theorem addF_len {mp:List (List Int)}:∀ {l:List Int},(addF mp l).length=mp.length:=by
 intro l
 induction l generalizing mp with
 | nil=>rfl
 | cons e l ih=>show (addF _ l).length=_;rw [ih,List.length_set]
theorem getD_set {α:Type} {l:List α} {i j:Nat} {x d:α} (h:i<l.length):(l.set i x).getD j d=if j=i then x else l.getD j d:=by
 rw [List.getD_eq_getElem?_getD,List.getElem?_set]
 by_cases hij:i=j
 ·subst hij;rw [if_pos rfl,if_pos h,if_pos rfl];rfl
 ·rw [if_neg hij,if_neg (Ne.symm hij),List.getD_eq_getElem?_getD]
theorem addF_get {mp:List (List Int)} {fr:List Int} {x:Int}:∀ {n:Nat},n≤mp.length→∀ e:Nat,(addF mp (outsP fr x n)).getD e []=if e<n∧fr.getD e 0=x then mp.getD e []++[-1] else mp.getD e []
 | 0,_,e=>by rw [if_neg (by omega)];rfl
 | n+1,hn,e=>by
  have ih:=fun e=>addF_get (mp:=mp) (fr:=fr) (x:=x) (n:=n) (by omega) e
  rw [outsP_succ]
  by_cases h:fr.getD n 0=x
  ·rw [if_pos h,addF_snoc,Int.toNat_natCast,getD_set (by rw [addF_len];omega),ih n,ih e,if_neg (show ¬ (n<n∧fr.getD n 0=x) from fun hh=>Nat.lt_irrefl _ hh.1)]
   by_cases he:e=n
   ·subst he;rw [if_pos rfl,if_pos ⟨by omega,h⟩]
   ·rw [if_neg he]
    by_cases hc:e<n∧fr.getD e 0=x
    ·rw [if_pos hc,if_pos ⟨by omega,hc.2⟩]
    ·rw [if_neg hc,if_neg (fun hh=>hc ⟨by omega,hh.2⟩)]
  ·rw [if_neg h,List.append_nil,ih e]
   by_cases hc:e<n∧fr.getD e 0=x
   ·rw [if_pos hc,if_pos ⟨by omega,hc.2⟩]
   ·rw [if_neg hc,if_neg]
    rintro ⟨h1,h2⟩
    by_cases he:e=n
    ·subst he;exact h h2
    ·exact hc ⟨by omega,h2⟩
structure DOk (s:Sch) (d:Dat):Prop where
 nd:(d.sz.length:Int)=s.nd
 mp:d.mp.length=s.fr.length
 szr:∀ i,i<d.sz.length→0≤d.sz.getD i 0∧d.sz.getD i 0≤16
 len:∀ e,e<d.mp.length→((d.mp.getD e []).length:Int)=d.sz.getD (s.fr.getD e 0).toNat 0
 val:∀ e i,e<d.mp.length→i<(d.mp.getD e []).length→-1≤(d.mp.getD e []).getD i 0∧(d.mp.getD e []).getD i 0<d.sz.getD (s.to.getD e 0).toNat 0
def Dat.can (s:Sch) (d:Dat) (c:Chg):Bool :=
 c.okB&&(if c.kd=1 then inR c.fi 0 (s.nd-1)&&!(d.sz.getD c.fi.toNat 0 == 16)
  else inR c.fi 0 ((s.fr.length:Int)-1)&&inR c.se 0 (d.sz.getD (s.fr.getD c.fi.toNat 0).toNat 0-1)&&inR c.th 0 (d.sz.getD (s.to.getD c.fi.toNat 0).toNat 0-1))
def Dat.app (s:Sch) (d:Dat) (c:Chg):Dat :=
 if c.kd=1 then ⟨d.sz.set c.fi.toNat (d.sz.getD c.fi.toNat 0+1),addF d.mp (outsP s.fr c.fi s.fr.length)⟩
 else ⟨d.sz,d.mp.set c.fi.toNat ((d.mp.getD c.fi.toNat []).set c.se.toNat c.th)⟩
structure SOk (s:Sch):Prop where
 n0 : 0≤s.nd
 n8:s.nd≤8
 f8:s.fr.length≤8
 to:s.to.length=s.fr.length
 fr:mapB s.nd s.fr=true
 tos:mapB s.nd s.to=true
theorem sok_of {s:Sch} (h:s.ok1=true):SOk s:=by
 simp only [Sch.ok1,Bool.and_eq_true,decide_eq_true_eq] at h
 obtain ⟨h1,h2,hto,hf,ht⟩:=h
 have hn : 0≤s.nd∧s.nd≤8:=by unfold inR at h1;simpa using h1
 exact ⟨hn.1,hn.2,h2,hto,hf,ht⟩
theorem DOk.app {s:Sch} {d:Dat} {c:Chg} (hs:SOk s) (h:DOk s d) (hc:d.can s c=true):DOk s (d.app s c):=by
 unfold Dat.can at hc
 rw [Bool.and_eq_true] at hc
 unfold Dat.app
 by_cases hk:c.kd=1
 ·rw [if_pos hk]
  rw [if_pos hk] at hc
  simp only [Bool.and_eq_true,inR,decide_eq_true_eq,Bool.not_eq_true',beq_eq_false_iff_ne] at hc
  obtain ⟨_,⟨h0,h1⟩,h16⟩:=hc
  have hnd:=h.nd
  have hlt:c.fi.toNat<d.sz.length:=by omega
  have hmf:=h.mp
  have hget:∀ j,(d.sz.set c.fi.toNat (d.sz.getD c.fi.toNat 0+1)).getD j 0=if j=c.fi.toNat then d.sz.getD c.fi.toNat 0+1 else d.sz.getD j 0:=fun j=>getD_set hlt
  have hmp:∀ e,(addF d.mp (outsP s.fr c.fi s.fr.length)).getD e []=if e<s.fr.length∧s.fr.getD e 0=c.fi then d.mp.getD e []++[-1] else d.mp.getD e []:=addF_get (by omega)
  have h16':=h.szr _ hlt
  refine ⟨by simpa using hnd,by rw [addF_len];exact hmf,fun i hi=>?_,fun e he=>?_,fun e i he hi=>?_⟩
  ·simp only [List.length_set] at hi
   simp only [hget]
   split
   ·omega
   ·exact h.szr i hi
  ·simp only [addF_len] at he
   simp only [hget,hmp]
   have hfe:=mapB_get hs.fr (show e<s.fr.length by omega)
   have hle:=h.len e he
   by_cases hx:s.fr.getD e 0=c.fi
   ·rw [if_pos ⟨by omega,hx⟩,hx,if_pos rfl,List.length_append,← hx]
    simp only [List.length_cons,List.length_nil]
    omega
   ·rw [if_neg (fun hh=>hx hh.2),if_neg (fun hh=>hx (by omega))]
    exact hle
  ·simp only [addF_len] at he
   simp only [hget]
   simp only [hmp] at hi ⊢
   have hte:=mapB_get hs.tos (show e<s.to.length by rw [hs.to];omega)
   have up:∀ v:Int,v<d.sz.getD (s.to.getD e 0).toNat 0→v<if (s.to.getD e 0).toNat=c.fi.toNat then d.sz.getD c.fi.toNat 0+1 else d.sz.getD (s.to.getD e 0).toNat 0:=by
    intro v hv
    split
    ·rename_i hh;rw [hh] at hv;omega
    ·exact hv
   have hpos : -1<d.sz.getD (s.to.getD e 0).toNat 0:=by have:=(h.szr (s.to.getD e 0).toNat (by omega)).1;omega
   by_cases hx:e<s.fr.length∧s.fr.getD e 0=c.fi
   ·rw [if_pos hx] at hi ⊢
    rw [List.getD_eq_getElem?_getD,List.getElem?_append]
    by_cases hi2:i<(d.mp.getD e []).length
    ·rw [if_pos hi2,← List.getD_eq_getElem?_getD]
     have:=h.val e i he hi2
     exact ⟨this.1,up _ this.2⟩
    ·rw [if_neg hi2]
     have:i-(d.mp.getD e []).length=0:=by rw [List.length_append,List.length_cons,List.length_nil] at hi;omega
     rw [this]
     exact ⟨by simp,up _ (by simpa using hpos)⟩
   ·rw [if_neg hx] at hi ⊢
    have:=h.val e i he hi
    exact ⟨this.1,up _ this.2⟩
 ·rw [if_neg hk]
  rw [if_neg hk] at hc
  simp only [Bool.and_eq_true,inR,decide_eq_true_eq] at hc
  obtain ⟨_,⟨⟨h0,h1⟩,h2,h3⟩,h4,h5⟩:=hc
  have hmf:=h.mp
  have hlt:c.fi.toNat<d.mp.length:=by omega
  have hget:∀ e,(d.mp.set c.fi.toNat ((d.mp.getD c.fi.toNat []).set c.se.toNat c.th)).getD e []=if e=c.fi.toNat then (d.mp.getD c.fi.toNat []).set c.se.toNat c.th else d.mp.getD e []:=fun e=>getD_set hlt
  have hl:=h.len _ hlt
  refine ⟨h.nd,by simpa using hmf,h.szr,fun e he=>?_,fun e i he hi=>?_⟩
  ·simp only [List.length_set] at he
   simp only [hget]
   split
   ·rename_i hh;rw [List.length_set,hh];exact hl
   ·exact h.len e he
  ·simp only [List.length_set] at he
   simp only [hget] at hi ⊢
   split at hi
   ·rename_i hh
    rw [if_pos hh,getD_set (by omega)]
    subst hh
    split
    ·omega
    ·exact h.val _ i he (by simpa using hi)
   ·rename_i hh
    rw [if_neg hh]
    exact h.val e i he hi
end Go.D3
namespace Go.D3
open Go
set_option maxRecDepth 100000
def Dat.bx (d:Dat):D:=.box [.o (ints d.sz),.o (intss d.mp)]
theorem wrap_p {n:Int} (h0 : -4611686018427387900≤n) (h1:n≤4611686018427387900):IntKind.i64.wrap (n-1)=n-1:=wrap_small (by omega) (by omega)
theorem addF_bound:∀ {l:List Int} {mp:List (List Int)} {b:Nat},(∀ e,(mp.getD e []).length≤b)→∀ e,((addF mp l).getD e []).length≤b+l.length
 | [],mp,b,h,e=>h e
 | x::l,mp,b,h,e=>by
  have:=addF_bound (l:=l) (mp:=mp.set x.toNat (mp.getD x.toNat []++[-1])) (b:=b+1) (fun e=>by
   by_cases hx:x.toNat<mp.length
   ·rw [getD_set hx]
    split
    ·rw [List.length_append];have:=h x.toNat;show _+1≤_;omega
    ·have:=h e;omega
   ·rw [List.set_eq_of_length_le (by omega)];have:=h e;omega) e
  show ((addF _ l).getD e []).length≤_
  simp only [List.length_cons];omega
theorem outs_range {fr:List Int} {x:Int} {n j:Nat} (hj:j<(outsP fr x n).length) : 0≤(outsP fr x n).getD j 0∧(outsP fr x n).getD j 0<n:=by
 have hm:(outsP fr x n).getD j 0∈outsP fr x n:=by rw [getD_lt hj];exact List.getElem_mem _
 generalize (outsP fr x n).getD j 0=v at hm
 unfold outsP at hm
 obtain ⟨e,he,h3⟩:=List.mem_map.1 hm
 have:=List.mem_range.1 (List.mem_filter.1 he).1
 omega
theorem DOk.mlen {s:Sch} {d:Dat} (hs:SOk s) (h:DOk s d) (e:Nat):(d.mp.getD e []).length≤16:=by
 by_cases he:e<d.mp.length
 ·have h1:=h.len e he
  have h2:=mapB_get hs.fr (show e<s.fr.length by rw [← h.mp];exact he)
  have h3:=h.szr (s.fr.getD e 0).toNat (by have:=h.nd;omega)
  omega
 ·rw [List.getD_eq_getElem?_getD,List.getElem?_eq_none (by omega)];simp
def c_impl_data_apply:C := (.seq (.ops [4] [⟨none,.boxv 4 (.v 2)⟩,⟨none,.asg 3 (.k (.bool false))⟩] [(4,0)]) (.seq (.opc [] [⟨none,.lda 4 (.v 4)⟩,⟨none,.call 73 [(.t 0)]⟩,⟨none,.not (.t 1)⟩] [] (.t 2) (.seq (.ops [] [⟨none,.asg 3 (.k (.bool false))⟩] []) .ret) .skip) (.seq (.opc [] [⟨none,.fA 0 (.v 4)⟩,⟨none,.ld (.t 0)⟩,⟨none,.bin .eql (.t 1) (.i 1)⟩] [] (.t 2) (.seq (.opc [] [⟨none,.fA 1 (.v 4)⟩,⟨none,.ld (.t 0)⟩,⟨none,.mv (.v 1)⟩,⟨none,.nck (.t 2)⟩,⟨none,.fA 0 (.t 3)⟩,⟨none,.ld (.t 4)⟩,⟨none,.bin .sub (.t 5) (.i 1)⟩,⟨none,.call 31 [(.t 1),(.i 0),(.t 6)]⟩,⟨none,.not (.t 7)⟩,⟨none,.mv (.t 8)⟩,⟨some (9,false),.mv (.v 0)⟩,⟨some (9,false),.nck (.t 10)⟩,⟨some (9,false),.fA 0 (.t 11)⟩,⟨some (9,false),.ld (.t 12)⟩,⟨some (9,false),.fA 1 (.v 4)⟩,⟨some (9,false),.ld (.t 14)⟩,⟨some (9,false),.idxA 1 (.t 13) (.t 15)⟩,⟨some (9,false),.ld (.t 16)⟩,⟨some (9,false),.bin .eql (.t 17) (.i 16)⟩,⟨none,.pick (.t 9) (.k (.bool true)) (.t 18)⟩] [] (.t 19) (.seq (.ops [] [⟨none,.asg 3 (.k (.bool false))⟩] []) .ret) .skip) (.seq (.ops [] [⟨none,.mv (.v 0)⟩,⟨none,.nck (.t 0)⟩,⟨none,.fA 0 (.t 1)⟩,⟨none,.ld (.t 2)⟩,⟨none,.fA 1 (.v 4)⟩,⟨none,.ld (.t 4)⟩,⟨none,.idxA 1 (.t 3) (.t 5)⟩,⟨none,.ld (.t 6)⟩,⟨none,.bin .add (.t 7) (.i 1)⟩,⟨none,.idxA 1 (.t 3) (.t 5)⟩,⟨none,.st (.t 9) (.t 8)⟩] []) (.seq (.seq (.ops [6,7] [⟨none,.mv (.v 1)⟩,⟨none,.fA 1 (.v 4)⟩,⟨none,.ld (.t 1)⟩,⟨none,.call 74 [(.t 0),(.t 2)]⟩,⟨none,.len (.t 3)⟩,⟨none,.asg 8 (.i 0)⟩] [(6,3),(7,4)]) (.block 0 (.loop (.opq [] [⟨none,.bin .lss (.v 8) (.v 7)⟩] [] (.t 0) .skip (.exit 0) (.seq (.block 1 (.seq (.ops [] [⟨none,.idxA 1 (.v 6) (.v 8)⟩,⟨none,.ld (.t 0)⟩,⟨none,.asg 5 (.t 1)⟩] []) (.alt [] (.two 3 13 [0,1,2,4,5,6,7,8,9,10,11,12,13,3,14,15] (.leaf [⟨none,.mv (.v 0)⟩,⟨none,.nck (.t 0)⟩,⟨none,.fA 1 (.t 1)⟩,⟨none,.mv (.v 5)⟩,⟨none,.mv (.v 0)⟩,⟨none,.nck (.t 4)⟩,⟨none,.fA 1 (.t 5)⟩,⟨none,.mv (.v 5)⟩,⟨none,.ld (.t 2)⟩,⟨none,.ld (.t 6)⟩,⟨none,.idxA 1 (.t 9) (.t 7)⟩,⟨none,.ld (.t 10)⟩,⟨none,.bldS (.int .i64 0) 1 [(0,(.i (-1)))]⟩,⟨none,.app 1 8 (.t 11) (.t 12)⟩,⟨none,.idxA 1 (.t 8) (.t 3)⟩,⟨none,.st (.t 14) (.t 13)⟩] []) (.leaf [⟨none,.mv (.v 0)⟩,⟨none,.nck (.t 0)⟩,⟨none,.fA 1 (.t 1)⟩,⟨none,.mv (.v 5)⟩,⟨none,.mv (.v 0)⟩,⟨none,.nck (.t 4)⟩,⟨none,.fA 1 (.t 5)⟩,⟨none,.mv (.v 5)⟩,⟨none,.ld (.t 6)⟩,⟨none,.idxA 1 (.t 8) (.t 7)⟩,⟨none,.ld (.t 9)⟩,⟨none,.bldS (.int .i64 0) 1 [(0,(.i (-1)))]⟩,⟨none,.app 1 8 (.t 10) (.t 11)⟩,⟨none,.ld (.t 2)⟩,⟨none,.idxA 1 (.t 13) (.t 3)⟩,⟨none,.st (.t 14) (.t 12)⟩] []))))) (.ops [] [⟨none,.bin .add (.v 8) (.i 1)⟩,⟨none,.asg 8 (.t 0)⟩] [])))))) (.seq (.ops [] [⟨none,.asg 3 (.k (.bool true))⟩] []) .ret)))) .skip) (.seq (.opc [] [⟨none,.fA 1 (.v 4)⟩,⟨none,.ld (.t 0)⟩,⟨none,.mv (.v 1)⟩,⟨none,.nck (.t 2)⟩,⟨none,.fA 1 (.t 3)⟩,⟨none,.ld (.t 4)⟩,⟨none,.len (.t 5)⟩,⟨none,.bin .sub (.t 6) (.i 1)⟩,⟨none,.call 31 [(.t 1),(.i 0),(.t 7)]⟩,⟨none,.not (.t 8)⟩,⟨none,.mv (.t 9)⟩,⟨some (10,false),.fA 2 (.v 4)⟩,⟨some (10,false),.ld (.t 11)⟩,⟨some (10,false),.mv (.v 0)⟩,⟨some (10,false),.nck (.t 13)⟩,⟨some (10,false),.fA 0 (.t 14)⟩,⟨some (10,false),.ld (.t 15)⟩,⟨some (10,false),.mv (.v 1)⟩,⟨some (10,false),.nck (.t 17)⟩,⟨some (10,false),.fA 1 (.t 18)⟩,⟨some (10,false),.ld (.t 19)⟩,⟨some (10,false),.fA 1 (.v 4)⟩,⟨some (10,false),.ld (.t 21)⟩,⟨some (10,false),.idxA 1 (.t 20) (.t 22)⟩,⟨some (10,false),.ld (.t 23)⟩,⟨some (10,false),.idxA 1 (.t 16) (.t 24)⟩,⟨some (10,false),.ld (.t 25)⟩,⟨some (10,false),.bin .sub (.t 26) (.i 1)⟩,⟨some (10,false),.call 31 [(.t 12),(.i 0),(.t 27)]⟩,⟨some (10,false),.not (.t 28)⟩,⟨none,.pick (.t 10) (.k (.bool true)) (.t 29)⟩,⟨none,.mv (.t 30)⟩,⟨some (31,false),.fA 3 (.v 4)⟩,⟨some (31,false),.ld (.t 32)⟩,⟨some (31,false),.mv (.v 0)⟩,⟨some (31,false),.nck (.t 34)⟩,⟨some (31,false),.fA 0 (.t 35)⟩,⟨some (31,false),.ld (.t 36)⟩,⟨some (31,false),.mv (.v 1)⟩,⟨some (31,false),.nck (.t 38)⟩,⟨some (31,false),.fA 2 (.t 39)⟩,⟨some (31,false),.ld (.t 40)⟩,⟨some (31,false),.fA 1 (.v 4)⟩,⟨some (31,false),.ld (.t 42)⟩,⟨some (31,false),.idxA 1 (.t 41) (.t 43)⟩,⟨some (31,false),.ld (.t 44)⟩,⟨some (31,false),.idxA 1 (.t 37) (.t 45)⟩,⟨some (31,false),.ld (.t 46)⟩,⟨some (31,false),.bin .sub (.t 47) (.i 1)⟩,⟨some (31,false),.call 31 [(.t 33),(.i 0),(.t 48)]⟩,⟨some (31,false),.not (.t 49)⟩,⟨none,.pick (.t 31) (.k (.bool true)) (.t 50)⟩] [] (.t 51) (.seq (.ops [] [⟨none,.asg 3 (.k (.bool false))⟩] []) .ret) .skip) (.seq (.ops [] [⟨none,.mv (.v 0)⟩,⟨none,.nck (.t 0)⟩,⟨none,.fA 1 (.t 1)⟩,⟨none,.ld (.t 2)⟩,⟨none,.fA 1 (.v 4)⟩,⟨none,.ld (.t 4)⟩,⟨none,.idxA 1 (.t 3) (.t 5)⟩,⟨none,.ld (.t 6)⟩,⟨none,.fA 2 (.v 4)⟩,⟨none,.ld (.t 8)⟩,⟨none,.fA 3 (.v 4)⟩,⟨none,.ld (.t 10)⟩,⟨none,.idxA 1 (.t 7) (.t 9)⟩,⟨none,.st (.t 12) (.t 11)⟩] []) (.seq (.ops [] [⟨none,.asg 3 (.k (.bool true))⟩] []) .ret))))))
def tr_impl_data_apply:List Nat:=[0,1,2,6,5,8,48,49,50]
def rs_impl_data_apply:List RS:=[.t 3]
theorem ok_impl_data_apply:fnOk Go.Proofs.Tryz.prog Go.Proofs.Tryz.f56 tr_impl_data_apply c_impl_data_apply 3 rs_impl_data_apply=true:=by decide +kernel
theorem ret_impl_data_apply (s:Sch) (d:Dat) (c:Chg) (hs:SOk s) (hd:DOk s d) :
  RetG Go.Proofs.Tryz.prog 56 [.adr 0 [(0,0)],.ptr s.cells,Chg.d c] [d.bx] (.bool (d.can s c)) [(if d.can s c=true then d.app s c else d).bx]:=by
 have hnd:=hd.nd
 have hmp:=hd.mp
 have n0:=hs.n0
 have n8:=hs.n8
 have f8:=hs.f8
 have hto:=hs.to
 have hw1:IntKind.i64.wrap (s.nd-1)=s.nd-1:=wrap_p (by omega) (by omega)
 have hw2:IntKind.i64.wrap ((s.fr.length:Int)-1)=(s.fr.length:Int)-1:=wrap_p (by omega) (by omega)
 unfold Dat.bx
 refine ret_fnG .tree Go.Proofs.Tryz.func56 rfl ok_impl_data_apply rfl ⟨by simp only [List.length_cons,List.length_nil];decide,by simp only [List.length_cons,List.length_nil];decide⟩ rfl ?_;unfold c_impl_data_apply tr_impl_data_apply rs_impl_data_apply;simp only [go_sem,Nat.reduceLT,Nat.reduceAdd,Nat.reduceSub,Nat.reduceBEq,Nat.reduceLeDiff,↓reduceIte]
 refine call_of (ret_impl_Change_isChange c) rfl (.inl rfl) ?_
 simp only [go_sem,Nat.reduceLT,Nat.reduceAdd,Nat.reduceSub,Nat.reduceBEq,Nat.reduceLeDiff,↓reduceIte]
 have neg:d.can s c=false→false=d.can s c∧D.box [.o (ints d.sz),.o (intss d.mp)]=D.box [.o (ints (if d.can s c=true then d.app s c else d).sz),.o (intss (if d.can s c=true then d.app s c else d).mp)]:=fun h=>by
  rw [h];exact ⟨rfl,rfl⟩
 refine ⟨fun h=>neg (by unfold Dat.can;rw [Bool.not_eq_true'] at h;rw [h];rfl),fun h=>⟨fun hk=>?_,fun hk=>?_⟩⟩
 ·rw [Bool.not_eq_false'] at h
  have hcan:d.can s c=(inR c.fi 0 (s.nd-1)&&!(d.sz.getD c.fi.toNat 0 == 16)):=by unfold Dat.can;rw [h,if_pos hk,Bool.true_and]
  rw [hw1]
  refine call_of (ret_impl_inRange _ _ _) rfl (.inl rfl) ?_
  simp only [go_sem,Nat.reduceLT,Nat.reduceAdd,Nat.reduceSub,Nat.reduceBEq,Nat.reduceLeDiff,↓reduceIte]
  have hin:inR c.fi 0 (s.nd-1)=true→0≤c.fi∧c.fi<d.sz.length:=by unfold inR;simp;omega
  refine ⟨fun h2=>⟨h2,hin h2⟩,fun h2=>by simpa using h2,fun h2=>neg ?_,fun h2=>?_⟩
  ·rw [hcan]
   rw [Bool.or_eq_true,Bool.not_eq_true'] at h2
   rw [Bool.and_eq_false_iff,Bool.not_eq_false']
   exact h2
  ·have hc:d.can s c=true:=by
    rw [hcan]
    rw [Bool.or_eq_false_iff,Bool.not_eq_false'] at h2
    rw [h2.1,h2.2];rfl
   rw [Bool.or_eq_false_iff,Bool.not_eq_false'] at h2
   obtain ⟨i0,i1⟩:=hin h2.1
   have hsz:=hd.szr c.fi.toNat (by omega)
   refine ⟨⟨i0,i1⟩,⟨i0,i1⟩,by omega,call_of (ret_impl_Schema_outOf s c.fi f8) rfl (.inl (nv_ints _)) ?_⟩
   rw [hc,if_pos rfl]
   unfold Dat.app
   rw [if_pos hk,wrap_small (by omega) (by omega)]
   generalize hL:outsP s.fr c.fi s.fr.length=L
   have hLr:∀ j,j<L.length→0≤L.getD j 0∧L.getD j 0<d.mp.length:=by
    intro j hj
    rw [← hL] at hj ⊢
    have:=outs_range hj
    omega
   have hLl:L.length≤8:=by rw [← hL];exact Nat.le_trans outsP_len f8
   simp only [go_sem,Nat.reduceLT,Nat.reduceAdd,Nat.reduceSub,Nat.reduceBEq,Nat.reduceLeDiff,↓reduceIte]
   refine loop_set [5] (fun (j:Nat)=>[(8,.int .i64 j),(9,.box [.o (ints (d.sz.set c.fi.toNat (d.sz.getD c.fi.toNat 0+1))),.o (intss (addF d.mp (L.take j)))])]) (fun j=>j≤L.length) (fun j=>L.length-j) 0 (by simp only [go_sem,Nat.reduceLT,Nat.reduceBEq,↓reduceIte];rfl) (Nat.zero_le _) rfl ?_
   intro j hj
   simp only [go_sem,Nat.reduceLT,Nat.reduceAdd,Nat.reduceSub,Nat.reduceEqDiff,Nat.reduceBEq,Nat.reduceLeDiff,↓reduceIte]
   refine ⟨fun h3=>?_,fun h3=>by rw [List.take_of_length_le (by omega)]⟩
   obtain ⟨l0,l1⟩:=hLr j h3
   have hal:(addF d.mp (L.take j)).length=d.mp.length:=addF_len
   have hbd:((addF d.mp (L.take j)).getD (L.getD j 0).toNat []).length≤16+j:=by
    have:=addF_bound (l:=L.take j) (mp:=d.mp) (b:=16) (hd.mlen hs) (L.getD j 0).toNat
    rw [List.length_take] at this
    omega
   refine ⟨h3,⟨l0,by omega⟩,by omega,⟨l0,by simp only [List.length_set,List.length_map];omega,?_⟩,by simp only [List.length_set,List.length_map];omega,j+1,h3,by omega,?_⟩
   ·rw [getD_set (by simp only [List.length_map];omega),if_pos rfl];rfl
   ·rw [set_hole rfl,wrap_lt h3 (by simp only [maxLen];omega),take_snoc h3 0,addF_snoc]
    unfold intss lst
    rw [List.map_set]
    rfl
 ·rw [Bool.not_eq_false'] at h
  have hk':¬ c.kd=1:=by simpa using hk
  rw [hw2]
  refine call_of (ret_impl_inRange _ _ _) rfl (.inl rfl) ?_
  simp only [go_sem,Nat.reduceLT,Nat.reduceAdd,Nat.reduceSub,↓reduceIte]
  have hin:inR c.fi 0 ((s.fr.length:Int)-1)=true→0≤c.fi∧c.fi<s.fr.length:=by unfold inR;simp;omega
  have hcan:d.can s c=(inR c.fi 0 ((s.fr.length:Int)-1)&&inR c.se 0 (d.sz.getD (s.fr.getD c.fi.toNat 0).toNat 0-1)&&inR c.th 0 (d.sz.getD (s.to.getD c.fi.toNat 0).toNat 0-1)):=by
   unfold Dat.can;rw [h,if_neg hk',Bool.true_and]
  have hf:inR c.fi 0 ((s.fr.length:Int)-1)=true→0≤s.fr.getD c.fi.toNat 0∧s.fr.getD c.fi.toNat 0<d.sz.length:=fun h2=>by
   have:=hin h2
   have:=mapB_get hs.fr (show c.fi.toNat<s.fr.length by omega)
   omega
  have ht:inR c.fi 0 ((s.fr.length:Int)-1)=true→0≤s.to.getD c.fi.toNat 0∧s.to.getD c.fi.toNat 0<d.sz.length:=fun h2=>by
   have:=hin h2
   have:=mapB_get hs.tos (show c.fi.toNat<s.to.length by omega)
   omega
  have hszb:∀ k,-1≤d.sz.getD k 0-1∧d.sz.getD k 0≤16:=fun k=>by
   by_cases hkk:k<d.sz.length
   ·have:=hd.szr k hkk;omega
   ·rw [List.getD_eq_getElem?_getD,List.getElem?_eq_none (by omega)];simp
  have hwr:∀ k,IntKind.i64.wrap (d.sz.getD k 0-1)=d.sz.getD k 0-1:=fun k=>by have:=hszb k;exact wrap_p (by omega) (by omega)
  rw [hwr]
  refine ⟨fun h2=>⟨h2,hin h2⟩,fun h2=>⟨h2,hf h2⟩,callg_of (fun _=>ret_impl_inRange _ _ _) rfl (fun h=>h) (.inl rfl) ?_⟩
  simp only [go_sem,Nat.reduceLT,Nat.reduceAdd,Nat.reduceSub,↓reduceIte]
  rw [hwr]
  refine ⟨fun h2=>by simpa using h2,fun h2=>⟨h2,?_⟩,fun h2=>⟨h2,ht (by rw [Bool.and_eq_true] at h2;exact h2.1)⟩,callg_of (fun _=>ret_impl_inRange _ _ _) rfl (fun h=>h) (.inl rfl) ?_⟩
  ·rw [Bool.and_eq_true] at h2
   have:=hin h2.1
   omega
  simp only [go_sem,Nat.reduceLT,Nat.reduceAdd,Nat.reduceSub,Nat.reduceBEq,Nat.reduceLeDiff,↓reduceIte]
  refine ⟨(fun h=>by simp only [Bool.or_eq_false_iff,Bool.and_eq_true,Bool.not_eq_false'] at h ⊢;exact h),fun h2=>neg ?_,fun h2=>?_⟩
  ·rw [hcan]
   generalize inR c.fi 0 ((s.fr.length:Int)-1)=x1 at h2
   generalize inR c.se 0 (d.sz.getD (s.fr.getD c.fi.toNat 0).toNat 0-1)=x2 at h2
   generalize inR c.th 0 (d.sz.getD (s.to.getD c.fi.toNat 0).toNat 0-1)=x3 at h2
   cases x1<;>cases x2<;>cases x3<;>first | rfl | cases h2
  ·have hc:d.can s c=true:=by
    rw [hcan]
    generalize inR c.fi 0 ((s.fr.length:Int)-1)=x1 at h2
    generalize inR c.se 0 (d.sz.getD (s.fr.getD c.fi.toNat 0).toNat 0-1)=x2 at h2
    generalize inR c.th 0 (d.sz.getD (s.to.getD c.fi.toNat 0).toNat 0-1)=x3 at h2
    cases x1<;>cases x2<;>cases x3<;>first | rfl | cases h2
   have hc2:=hc
   rw [hcan,Bool.and_eq_true,Bool.and_eq_true] at hc2
   obtain ⟨⟨c1,c2⟩,c3⟩:=hc2
   have i1:=hin c1
   have i2 : 0≤c.se∧c.se<(d.mp.getD c.fi.toNat []).length:=by
    have:=hd.len c.fi.toNat (by omega)
    unfold inR at c2;simp only [Bool.and_eq_true,decide_eq_true_eq] at c2;omega
   rw [hc,if_pos rfl]
   unfold Dat.app
   rw [if_neg hk']
   refine ⟨⟨by omega,by omega⟩,i2,⟨by omega,by omega⟩,rfl,?_⟩
   have e1:(lst (D.int .i64) 0 (d.mp.getD c.fi.toNat [])).setKid c.se.toNat 0 (D.int .i64 c.th)=lst (D.int .i64) 0 ((d.mp.getD c.fi.toNat []).set c.se.toNat c.th):=by
    unfold lst
    rw [List.map_set]
    show D.slice _ (List.set _ _ (setc _ 0 _))=_
    congr 2
    rw [List.getD_eq_getElem?_getD,List.getElem?_map]
    cases (d.mp.getD c.fi.toNat [])[c.se.toNat]?<;>rfl
   rw [e1]
   exact congrArg (fun x=>D.box [.o (ints d.sz),.o x]) (lst_fold (f:=ints) (d:=[]) (l:=d.mp) (i:=c.fi.toNat) (x:=(d.mp.getD c.fi.toNat []).set c.se.toNat c.th))
end Go.D3
namespace Go.D3
open Go
set_option maxRecDepth 100000
theorem rows_get {s:Sch} {sz:List Int} {mp:List (List Int)} (h:s.rowsB sz mp=true):(sz.length:Int)=s.nd∧mapB 17 sz=true∧mp.length=s.fr.length ∧
  ∀ e,e<mp.length→((mp.getD e []).length:Int)=sz.getD (s.fr.getD e 0).toNat 0∧mapB (sz.getD (s.to.getD e 0).toNat 0) (mp.getD e [])=true:=by
 unfold Sch.rowsB at h
 simp only [Bool.and_eq_true,beq_iff_eq,List.all_eq_true,List.mem_range] at h
 obtain ⟨⟨⟨h1,h2⟩,h3⟩,h4⟩:=h
 exact ⟨h1,h2,h3,fun e he=>by have:=h4 e he;unfold Sch.mapOk at this;simpa using this⟩
theorem lead_ok {s:Sch} {sz:List Int} {mp:List (List Int)} (hr:s.rowsB sz mp=true):∀ {l:List Int} {x r y:Int},fol s.fr s.to x l=some y→0≤r→r<sz.getD x.toNat 0→leadOk mp r l
 | [],_,_,_,_,_,_=>trivial
 | e::l,x,r,y,hf,h0,h1=>by
  obtain ⟨_,_,hl,hm⟩:=rows_get hr
  rw [fol] at hf
  by_cases hc:(inR e 0 ((s.fr.length:Int)-1)&&s.fr.getD e.toNat 0 == x)=true
  ·rw [if_pos hc] at hf
   simp only [Bool.and_eq_true,beq_iff_eq,inR,decide_eq_true_eq] at hc
   obtain ⟨hlen,hmap⟩:=hm e.toNat (by omega)
   rw [hc.2] at hlen
   have hv:=mapB_get hmap (i:=r.toNat) (by omega)
   exact ⟨by omega,⟨h0,by omega⟩,lead_ok hr hf hv.1 hv.2⟩
  ·rw [if_neg hc] at hf;cases hf
theorem endO_fol {s:Sch} {p:Pth} {y:Int} (h:s.endO p=some y):(0≤p.st∧p.st<s.nd)∧p.ed.length≤6∧fol s.fr s.to p.st p.ed=some y:=by
 unfold Sch.endO at h
 split at h
 ·rename_i hc
  simp only [Bool.and_eq_true,inR,decide_eq_true_eq] at hc
  exact ⟨⟨hc.1.1,by omega⟩,hc.2,h⟩
 ·cases h
theorem ok_eq {s:Sch} (h:s.ok=true) {i:Nat} (hi:i<s.lf.length):∃ y,s.endO (s.lf.getD i Pth.zero)=some y∧s.endO (s.rt.getD i Pth.zero)=some y∧(s.lf.getD i Pth.zero).st=(s.rt.getD i Pth.zero).st:=by
 unfold Sch.ok at h
 rw [Bool.and_eq_true] at h
 have:=List.all_eq_true.1 h.2 i (List.mem_range.2 hi)
 unfold Sch.eqB at this
 cases hp:s.endO (s.lf.getD i Pth.zero) with
 | none=>rw [hp] at this;cases this
 | some a =>
  cases hq:s.endO (s.rt.getD i Pth.zero) with
  | none=>rw [hp,hq] at this;cases this
  | some b =>
   rw [hp,hq] at this
   simp only [Bool.and_eq_true,beq_iff_eq] at this
   exact ⟨a,rfl,by rw [this.2],this.1⟩
theorem ok_len {s:Sch} (h:s.ok=true):s.ok1=true∧s.lf.length≤8∧s.rt.length=s.lf.length:=by
 unfold Sch.ok Sch.ok2 at h
 simp only [Bool.and_eq_true,decide_eq_true_eq] at h
 exact ⟨h.1.1,h.1.2.1,h.1.2.2⟩
theorem brk_ok {s:Sch} {sz:List Int} {mp:List (List Int)} (h:s.ok=true) (hr:s.rowsB sz mp=true):s.brkOk sz mp:=by
 refine ⟨(ok_len h).2.2,fun i hi=>?_⟩
 obtain ⟨y,h1,h2,h3⟩:=ok_eq h hi
 obtain ⟨a1,a2,a3⟩:=endO_fol h1
 obtain ⟨b1,b2,b3⟩:=endO_fol h2
 obtain ⟨c1,_⟩:=rows_get hr
 exact ⟨by omega,fun r hlt=>⟨lead_ok hr a3 (by omega) hlt,lead_ok hr b3 (by omega) (by rw [← h3];exact hlt)⟩⟩
def Dat.wholeB (s:Sch) (d:Dat):Bool:=s.rowsB d.sz d.mp&&(s.brk d.sz d.mp s.lf.length).isNone
def c_impl_data_isWhole:C := (.seq (.ops [3] [⟨none,.boxv 2 (.v 0)⟩,⟨none,.asg 2 (.k (.bool false))⟩] [(3,0)]) (.seq (.opc [] [⟨none,.mv (.v 1)⟩,⟨none,.fA 0 (.v 3)⟩,⟨none,.ld (.t 1)⟩,⟨none,.fA 1 (.v 3)⟩,⟨none,.ld (.t 3)⟩,⟨none,.call 75 [(.t 0),(.t 2),(.t 4)]⟩,⟨none,.not (.t 5)⟩] [] (.t 6) (.seq (.ops [] [⟨none,.asg 2 (.k (.bool false))⟩] []) .ret) .skip) (.seq (.ops [] [⟨none,.mv (.v 1)⟩,⟨none,.fA 0 (.v 3)⟩,⟨none,.ld (.t 1)⟩,⟨none,.fA 1 (.v 3)⟩,⟨none,.ld (.t 3)⟩,⟨none,.call 76 [(.t 0),(.t 2),(.t 4)]⟩,⟨none,.mv (.t 5)⟩,⟨none,.ext 0 (.t 6)⟩,⟨none,.ext 1 (.t 6)⟩,⟨none,.asg 4 (.t 7)⟩,⟨none,.mv (.t 8)⟩] []) (.seq (.ops [] [⟨none,.mv (.v 4)⟩,⟨none,.bin .lss (.t 0) (.i 0)⟩,⟨none,.asg 2 (.t 1)⟩] []) .ret))))
def tr_impl_data_isWhole:List Nat:=[0,1,4,2,5]
def rs_impl_data_isWhole:List RS:=[.t 2]
theorem ok_impl_data_isWhole:fnOk Go.Proofs.Tryz.prog Go.Proofs.Tryz.f57 tr_impl_data_isWhole c_impl_data_isWhole 2 rs_impl_data_isWhole=true:=by decide +kernel
theorem ret_impl_data_isWhole (s:Sch) (d:Dat) (h:s.ok=true):Ret Go.Proofs.Tryz.prog 57 [.v (Dat.d d),.v (.ptr s.cells)] (.bool (d.wholeB s)):=by
 have hs1:=(ok_len h).1
 unfold Dat.wholeB
 refine ret_fn Go.Proofs.Tryz.func57 ok_impl_data_isWhole rfl (show 2<500 by decide) rfl ?_;unfold c_impl_data_isWhole tr_impl_data_isWhole rs_impl_data_isWhole;simp only [go_sem,Nat.reduceLT,Nat.reduceAdd,Nat.reduceSub,↓reduceIte]
 refine call_of (ret_impl_Schema_hasRows s d.sz d.mp hs1) rfl (.inl rfl) ?_
 simp only [go_sem,Nat.reduceLT,Nat.reduceAdd,Nat.reduceSub,↓reduceIte]
 refine ⟨fun h2=>by rw [Bool.not_eq_true'] at h2;rw [h2];rfl,fun h2=>?_⟩
 rw [Bool.not_eq_false'] at h2
 obtain ⟨_,h17,_⟩:=rows_get h2
 refine call_of (ret_impl_Schema_broken s d.sz d.mp (brk_ok h h2) (fun x hx=>by have:=List.all_eq_true.1 h17 x hx;simp at this;omega)) rfl (.inl (by cases s.brk d.sz d.mp s.lf.length<;>rfl)) ?_
 rw [h2]
 cases s.brk d.sz d.mp s.lf.length with
 | none =>
  simp only [brkD]
  simp only [go_sem,Nat.reduceLT,Nat.reduceAdd,Nat.reduceSub,↓reduceIte]
  all_goals simp
 | some p =>
  obtain ⟨i,r⟩:=p
  simp only [brkD]
  simp only [go_sem,Nat.reduceLT,Nat.reduceAdd,Nat.reduceSub,↓reduceIte]
  all_goals simp
  all_goals omega
def Dat.all (s:Sch):Dat→List Chg→Option Dat
 | d,[]=>some d
 | d,c::r=>if d.can s c=true then Dat.all s (d.app s c) r else none
theorem all_drop {s:Sch} {d:Dat} {l:List Chg} {i:Nat} (h:i<l.length):Dat.all s d (l.drop i)=if d.can s (l.getD i Chg.zero)=true then Dat.all s (d.app s (l.getD i Chg.zero)) (l.drop (i+1)) else none:=by
 rw [List.drop_eq_getElem_cons h,Dat.all,getD_lt h]
def allD (s:Sch):Option Dat→D
 | some d=>.tup [Dat.d d,.bool (d.wholeB s)]
 | none=>.tup [Dat.d Dat.zero,.bool false]
theorem DOk.small {s:Sch} {d:Dat} (hs:SOk s) (h:DOk s d):d.sz.length≤1048576∧costL List.length d.mp≤1048576:=by
 have h1:=h.nd
 have h2:=hs.n8
 have h3:=hs.f8
 have h4:=h.mp
 refine ⟨by omega,?_⟩
 unfold costL
 have:∀ l:List (List Int),(∀ x∈l,x.length≤16)→(l.map List.length).sum≤16*l.length:=by
  intro l
  induction l with
  | nil=>intro _;simp
  | cons x l ih=>intro hx;have:=ih (fun y hy=>hx y (List.mem_cons_of_mem _ hy));have:=hx x List.mem_cons_self;simp only [List.map_cons,List.sum_cons,List.length_cons];omega
 have:=this d.mp (fun x hx=>by
  obtain ⟨j,hj,rfl⟩:=List.getElem_of_mem hx
  have:=h.mlen hs j
  rwa [getD_lt hj] at this)
 omega
def c_impl_data_after:C := (.seq (.ops [5,3] [⟨none,.boxv 2 (.v 0)⟩,⟨none,.alc [.nils (.int .i64 0),.nils (ints [])]⟩,⟨none,.asg 4 (.k (.bool false))⟩] [(5,0),(3,1)]) (.seq (.ops [6] [⟨none,.lda 2 (.v 5)⟩,⟨none,.call 55 [(.t 0)]⟩,⟨none,.alc [.nils (.int .i64 0),.nils (ints [])]⟩,⟨none,.stn 2 (.t 2) (.t 1)⟩] [(6,2)]) (.seq (.seq (.ops [9] [⟨none,.asg 8 (.v 2)⟩,⟨none,.len (.v 8)⟩,⟨none,.asg 10 (.i 0)⟩] [(9,1)]) (.block 0 (.loop (.opq [] [⟨none,.bin .lss (.v 10) (.v 9)⟩] [] (.t 0) .skip (.exit 0) (.seq (.block 1 (.seq (.ops [7] [⟨none,.idxA 4 (.v 8) (.v 10)⟩,⟨none,.lda 4 (.t 0)⟩,⟨none,.alc [.int .i64 0,.int .i64 0,.int .i64 0,.int .i64 0]⟩,⟨none,.stn 4 (.t 2) (.t 1)⟩] [(7,2)]) (.opc [] [⟨none,.mv (.v 1)⟩,⟨none,.lda 4 (.v 7)⟩,⟨none,.dyn (.k (.fn 56 [])) [(.v 6),(.t 0),(.t 1)]⟩,⟨none,.not (.t 2)⟩] [] (.t 3) (.seq (.ops [] [⟨none,.bld [.nils (.int .i64 0),.nils (ints [])] []⟩,⟨none,.stn 2 (.v 3) (.t 0)⟩,⟨none,.asg 4 (.k (.bool false))⟩] []) .ret) .skip))) (.ops [] [⟨none,.bin .add (.v 10) (.i 1)⟩,⟨none,.asg 10 (.t 0)⟩] [])))))) (.seq (.ops [] [⟨none,.lda 2 (.v 6)⟩,⟨none,.lda 2 (.v 6)⟩,⟨none,.mv (.v 1)⟩,⟨none,.call 57 [(.t 1),(.t 2)]⟩,⟨none,.stn 2 (.v 3) (.t 0)⟩,⟨none,.asg 4 (.t 3)⟩] []) .ret))))
def tr_impl_data_after:List Nat:=[0,1,2,6,7,3,8,10,13,14,15]
def rs_impl_data_after:List RS:=[.c 3 2 true,.t 4]
theorem ok_impl_data_after:fnOk Go.Proofs.Tryz.prog Go.Proofs.Tryz.f39 tr_impl_data_after c_impl_data_after 3 rs_impl_data_after=true:=by decide +kernel
theorem ret_impl_data_after (s:Sch) (d:Dat) (l:List Chg) (h:s.ok=true) (hd:DOk s d):Ret Go.Proofs.Tryz.prog 39 [.v (Dat.d d),.v (.ptr s.cells),.v (lst Chg.d Chg.zero l)] (allD s (Dat.all s d l)):=by
 have hs:=sok_of (ok_len h).1
 obtain ⟨m1,m2⟩:=hd.small hs
 refine ret_wf fun hw=>?_
 simp only [argsWf,wfd_lst] at hw
 have hl:l.length≤maxLen:=hw.2.2.1.1
 refine ret_fn Go.Proofs.Tryz.func39 ok_impl_data_after rfl (show 3<500 by decide) rfl ?_;unfold c_impl_data_after tr_impl_data_after rs_impl_data_after;simp only [go_sem,Nat.reduceLT,Nat.reduceAdd,Nat.reduceSub,Nat.reduceLeDiff,↓reduceIte]
 refine call_of (ret_impl_data_copy d m1 m2) rfl (.inl (nv_Dat _)) ?_
 simp only [go_sem,Nat.reduceLT,Nat.reduceAdd,Nat.reduceSub,Nat.reduceEqDiff,↓reduceIte]
 refine loop_set [7] (fun (p:Nat×Dat)=>[(6,p.2.bx),(10,.int .i64 p.1)]) (fun p=>p.1≤l.length∧Dat.all s p.2 (l.drop p.1)=Dat.all s d l∧DOk s p.2) (fun p=>l.length-p.1) (0,d) (by simp only [go_sem,Nat.reduceLT,↓reduceIte];rfl) ⟨Nat.zero_le _,rfl,hd⟩ rfl ?_
 rintro ⟨i,e⟩ ⟨hi,ha,he⟩
 simp only at hi ha he
 unfold Dat.bx
 simp only [go_sem,Nat.reduceLT,Nat.reduceAdd,Nat.reduceSub,Nat.reduceLeDiff,↓reduceIte]
 refine ⟨fun h2=>⟨h2,?_⟩,fun h2=>?_⟩
 ·rw [all_drop h2] at ha
  refine g_call [6] false (ret_impl_data_apply s e (l.getD i Chg.zero) hs he) (by exact ⟨by decide,rfl⟩) (by repeat (first | exact trivial | refine ⟨rfl,?_⟩)) (by repeat (first | exact trivial | refine ⟨.inl rfl,?_⟩ | refine ⟨.inr ⟨rfl,rfl⟩,?_⟩)) (by repeat (first | exact trivial | refine ⟨(fun h=>by cases h),?_⟩)) (fun h=>by cases h) ?_
  have hstep:=fun hc=>he.app (c:=l.getD i Chg.zero) hs hc
  cases hc:e.can s (l.getD i Chg.zero) with
  | false =>
   rw [hc,if_neg (by simp)] at ha
   rw [← ha,if_neg (by simp)]
   unfold Dat.bx
   simp only [go_sem,Nat.reduceLT,Nat.reduceAdd,Nat.reduceSub,Nat.reduceEqDiff,↓reduceIte]
   all_goals rfl
  | true =>
   rw [hc,if_pos rfl] at ha
   rw [if_pos rfl]
   have:=hstep hc
   generalize e.app s (l.getD i Chg.zero)=e' at ha this
   unfold Dat.bx
   simp only [go_sem,Nat.reduceLT,Nat.reduceAdd,Nat.reduceSub,Nat.reduceEqDiff,↓reduceIte]
   exact ⟨(i+1,e'),⟨h2,ha,this⟩,by show l.length-(i+1)<l.length-i;omega,by rw [wrap_lt h2 hl]⟩
 ·rw [show i=l.length by omega,List.drop_length] at ha
  rw [← ha]
  refine call_of (ret_impl_data_isWhole s e h) rfl (.inl rfl) ?_
  simp only [Dat.all,allD]
  simp only [go_sem,Nat.reduceLT,Nat.reduceAdd,Nat.reduceSub,Nat.reduceEqDiff,Nat.reduceBEq,Nat.reduceLeDiff,↓reduceIte]
  all_goals rfl
end Go.D3
namespace Go.D3
open Go
set_option maxRecDepth 100000
set_option maxHeartbeats 1000000
theorem bd_lst {s:List UInt8}:bytesD s=bytes (s.map fun b=>(b.toNat:Int)):=by unfold bytesD bytes lst;rw [List.map_map];rfl
theorem wrap_u8 {n:Int} (h : 0≤n) (h1:n<256):IntKind.u8.wrap n=n:=by
 rw [wrap_of_has ⟨by simp only [IntKind.min,IntKind.signed];simpa using h,by simp only [IntKind.max,IntKind.signed,IntKind.bits];simp;omega⟩]
attribute [go_sem] bd_lst
theorem itoa_len {n:Int} (h : 0≤n) (h1:n≤4611686018427387900):(Lib.itoa n).length≤20:=by
 obtain ⟨m,rfl⟩:∃ m:Nat,n=m:=⟨n.toNat,by omega⟩
 rw [Lib.itoa_nonneg];exact dec_len m (by omega)
theorem ret_dec {n:Int} (h : 0≤n) (h1:n≤4611686018427387900):Ret Go.Proofs.Tryz.prog 43 [.v (.int .i64 n)] (.str (Lib.itoa n)):=by
 obtain ⟨m,rfl⟩:∃ m:Nat,n=m:=⟨n.toNat,by omega⟩
 rw [Lib.itoa_nonneg];exact ret_spec_l01Dec m (by omega)
def edgB (e:Int):UInt8:=UInt8.ofNat (97+e.toNat)
def Pth.txt (p:Pth):List UInt8:=64::(Lib.itoa p.st++p.ed.map edgB)
structure POk (p:Pth):Prop where
 st : 0≤p.st∧p.st≤8
 len:p.ed.length≤6
 ed:∀ i,i<p.ed.length→0≤p.ed.getD i 0∧p.ed.getD i 0<8
theorem POk.tlen {p:Pth} (h:POk p):p.txt.length≤40:=by
 have:=itoa_len h.st.1 (by have:=h.st;omega)
 have:=h.len
 unfold Pth.txt
 simp only [List.length_cons,List.length_append,List.length_map];omega
def c_impl_Path_text:C := (.seq (.ops [2] [⟨none,.boxv 2 (.v 0)⟩,⟨none,.asg 1 (.k (.str []))⟩] [(2,0)]) (.seq (.ops [] [⟨none,.fA 0 (.v 2)⟩,⟨none,.ld (.t 0)⟩,⟨none,.call 51 [(.t 1),(.i 10)]⟩,⟨none,.bin .add (.k (.str [64])) (.t 2)⟩,⟨none,.cvB (.t 3)⟩,⟨none,.asg 3 (.t 4)⟩] []) (.seq (.seq (.ops [5,6] [⟨none,.fA 1 (.v 2)⟩,⟨none,.ld (.t 0)⟩,⟨none,.len (.t 1)⟩,⟨none,.asg 7 (.i 0)⟩] [(5,1),(6,2)]) (.block 0 (.loop (.opq [] [⟨none,.bin .lss (.v 7) (.v 6)⟩] [] (.t 0) .skip (.exit 0) (.seq (.block 1 (.seq (.ops [] [⟨none,.idxA 1 (.v 5) (.v 7)⟩,⟨none,.ld (.t 0)⟩,⟨none,.asg 4 (.t 1)⟩] []) (.ops [] [⟨none,.mv (.v 3)⟩,⟨none,.mv (.v 4)⟩,⟨none,.bin .add (.i 97) (.t 1)⟩,⟨none,.conv .u8 (.t 2)⟩,⟨none,.bldS (.int .u8 0) 1 [(0,(.t 3))]⟩,⟨none,.app 1 1 (.t 0) (.t 4)⟩,⟨none,.asg 3 (.t 5)⟩] []))) (.ops [] [⟨none,.bin .add (.v 7) (.i 1)⟩,⟨none,.asg 7 (.t 0)⟩] [])))))) (.seq (.ops [] [⟨none,.mv (.v 3)⟩,⟨none,.cvS (.t 0)⟩,⟨none,.asg 1 (.t 1)⟩] []) .ret))))
def tr_impl_Path_text:List Nat:=[0,2,1,3,5,12,13,14]
def rs_impl_Path_text:List RS:=[.t 1]
theorem ok_impl_Path_text:fnOk Go.Proofs.Tryz.prog Go.Proofs.Tryz.f65 tr_impl_Path_text c_impl_Path_text 1 rs_impl_Path_text=true:=by decide +kernel
theorem ret_impl_Path_text (p:Pth) (h:POk p):Ret Go.Proofs.Tryz.prog 65 [.v (Pth.d p)] (.str p.txt):=by
 have hlen:=h.len
 have hil:=itoa_len h.st.1 (by have:=h.st;omega)
 refine ret_fn Go.Proofs.Tryz.func65 ok_impl_Path_text rfl (show 1<500 by decide) rfl ?_;unfold c_impl_Path_text tr_impl_Path_text rs_impl_Path_text;simp only [go_sem,Nat.reduceLT,Nat.reduceAdd,Nat.reduceSub,↓reduceIte]
 refine call_of ret_itoa rfl (.inl rfl) ?_
 simp only [go_sem,Nat.reduceLT,Nat.reduceAdd,Nat.reduceSub,Nat.reduceLeDiff,↓reduceIte]
 refine ⟨by simp only [maxLen];omega,by omega,?_⟩
 refine loop_set [4] (fun (i:Nat)=>[(3,.o (bytes (((64::Lib.itoa p.st).map fun b=>(b.toNat:Int))++(p.ed.take i).map fun e=>97+e))),(7,.int .i64 i)]) (fun i=>i≤p.ed.length) (fun i=>p.ed.length-i) 0 (by simp only [go_sem,Nat.reduceLT,↓reduceIte];rfl) (Nat.zero_le _) (by simp [sets,setN]) ?_
 intro i hi
 simp only [go_sem,Nat.reduceLT,Nat.reduceAdd,Nat.reduceSub,Nat.reduceBEq,Nat.reduceLeDiff,↓reduceIte]
 refine ⟨fun h1=>⟨h1,?_⟩,fun h1=>?_⟩
 ·have he:=h.ed i h1
  have hw:IntKind.u8.wrap (IntKind.i64.wrap (97+p.ed.getD i 0))=97+p.ed.getD i 0:=by
   rw [wrap_small (by omega) (by omega),wrap_u8 (by omega) (by omega)]
  rw [hw]
  refine ⟨by simp;omega,i+1,h1,by omega,?_⟩
  rw [wrap_small (by omega) (by omega),take_snoc h1 0,List.map_append,← List.append_assoc]
  rfl
 ·rw [List.take_of_length_le (by omega),List.map_append,List.map_map,List.map_map]
  have e1:(Lib.itoa p.st).map (byteOf ∘ fun b=>(b.toNat:Int))=Lib.itoa p.st:=by
   conv=>rhs;rw [← List.map_id (Lib.itoa p.st)]
   refine List.map_congr_left fun b _=>?_
   show UInt8.ofNat ((b.toNat:Int)).toNat=b
   rw [Int.toNat_natCast,UInt8.ofNat_toNat]
  have e2:p.ed.map (byteOf ∘ fun e=>97+e)=p.ed.map edgB:=List.map_congr_left fun e hm=>by
   obtain ⟨j,hj,rfl⟩:=List.getElem_of_mem hm
   have:=h.ed j hj
   rw [getD_lt hj] at this
   show UInt8.ofNat (97+p.ed[j]).toNat=UInt8.ofNat (97+p.ed[j].toNat)
   congr 1;omega
  rw [e1,e2];rfl
theorem slice_abc {e:Int} (h : 0≤e∧e<8):(([97,98,99,100,101,102,103,104]:List UInt8).take (e+1).toNat).drop e.toNat=[edgB e]:=by
 obtain ⟨n,rfl⟩:∃ n:Nat,e=n:=⟨e.toNat,by omega⟩
 rw [show ((n:Int)+1).toNat=n+1 by omega,Int.toNat_natCast]
 unfold edgB
 rw [Int.toNat_natCast]
 have:n<8:=by omega
 match n,this with
 | 0,_ | 1,_ | 2,_ | 3,_ | 4,_ | 5,_ | 6,_ | 7,_=>rfl
 | n+8,h=>omega
def c_spec_l36Text:C := (.seq (.ops [2] [⟨none,.boxv 2 (.v 0)⟩,⟨none,.asg 1 (.k (.str []))⟩] [(2,0)]) (.seq (.ops [] [⟨none,.fA 0 (.v 2)⟩,⟨none,.ld (.t 0)⟩,⟨none,.call 43 [(.t 1)]⟩,⟨none,.bin .add (.k (.str [64])) (.t 2)⟩,⟨none,.asg 3 (.t 3)⟩] []) (.seq (.seq (.ops [] [⟨none,.asg 4 (.i 0)⟩] []) (.block 0 (.loop (.seq (.opc [] [⟨none,.mv (.v 4)⟩,⟨none,.fA 1 (.v 2)⟩,⟨none,.ld (.t 1)⟩,⟨none,.len (.t 2)⟩,⟨none,.bin .lss (.t 0) (.t 3)⟩] [] (.t 4) .skip (.exit 0)) (.seq (.block 1 (.ops [] [⟨none,.mv (.v 3)⟩,⟨none,.fA 1 (.v 2)⟩,⟨none,.ld (.t 1)⟩,⟨none,.mv (.v 4)⟩,⟨none,.idxA 1 (.t 2) (.t 3)⟩,⟨none,.ld (.t 4)⟩,⟨none,.fA 1 (.v 2)⟩,⟨none,.ld (.t 6)⟩,⟨none,.mv (.v 4)⟩,⟨none,.idxA 1 (.t 7) (.t 8)⟩,⟨none,.ld (.t 9)⟩,⟨none,.bin .add (.t 10) (.i 1)⟩,⟨none,.slS (.k (.str [97,98,99,100,101,102,103,104])) (some (.t 5)) (some (.t 11))⟩,⟨none,.bin .add (.t 0) (.t 12)⟩,⟨none,.asg 3 (.t 13)⟩] [])) (.ops [] [⟨none,.mv (.v 4)⟩,⟨none,.bin .add (.t 0) (.i 1)⟩,⟨none,.asg 4 (.t 1)⟩] [])))))) (.seq (.ops [] [⟨none,.mv (.v 3)⟩,⟨none,.asg 1 (.t 0)⟩] []) .ret))))
def tr_spec_l36Text:List Nat:=[0,2,1,3,4]
def rs_spec_l36Text:List RS:=[.t 1]
theorem ok_spec_l36Text:fnOk Go.Proofs.Tryz.prog Go.Proofs.Tryz.f47 tr_spec_l36Text c_spec_l36Text 1 rs_spec_l36Text=true:=by decide +kernel
theorem ret_spec_l36Text (p:Pth) (h:POk p):Ret Go.Proofs.Tryz.prog 47 [.v (Pth.d p)] (.str p.txt):=by
 have hlen:=h.len
 have hil:=itoa_len h.st.1 (by have:=h.st;omega)
 refine ret_fn Go.Proofs.Tryz.func47 ok_spec_l36Text rfl (show 1<500 by decide) rfl ?_;unfold c_spec_l36Text tr_spec_l36Text rs_spec_l36Text;simp only [go_sem,Nat.reduceLT,Nat.reduceAdd,Nat.reduceSub,↓reduceIte]
 refine call_of (ret_dec h.st.1 (by have:=h.st;omega)) rfl (.inl rfl) ?_
 simp only [go_sem,Nat.reduceLT,Nat.reduceAdd,Nat.reduceSub,↓reduceIte]
 refine ⟨by simp only [maxLen];omega,?_⟩
 refine loop_set [] (fun (i:Nat)=>[(3,.str (64::(Lib.itoa p.st++(p.ed.take i).map edgB))),(4,.int .i64 i)]) (fun i=>i≤p.ed.length) (fun i=>p.ed.length-i) 0 (by simp only [go_sem];rfl) (Nat.zero_le _) (by simp [sets,setN]) ?_
 intro i hi
 simp only [go_sem,Nat.reduceLT,Nat.reduceAdd,Nat.reduceSub,↓reduceIte]
 refine ⟨fun h1=>?_,fun h1=>by rw [List.take_of_length_le (by omega)];rfl⟩
 have he:=h.ed i h1
 rw [wrap_small (n:=p.ed.getD i 0+1) (by omega) (by omega)]
 rw [slice_abc he]
 refine ⟨h1,h1,by omega,by simp only [maxLen,List.length_append,List.length_map,List.length_take,List.length_cons,List.length_nil];omega,i+1,h1,by omega,?_⟩
 rw [wrap_small (by omega) (by omega),take_snoc h1 0,List.map_append,List.append_assoc]
 rfl
end Go.D3
namespace Go.D3
open Go
set_option maxRecDepth 100000
set_option maxHeartbeats 1000000
theorem split_spl {s p:List UInt8} (hp:p≠[]):splitL s p=spl p 0 s:=by
 unfold splitL
 rw [Lib.splitB_data]
 show Lib.splitK p 0 (Lib.count s p) s=_
 exact splitK_spl hp s.length (Nat.le_refl _)
theorem ret_spl {s p:List UInt8} (hp:p≠[]) (hs:s.length≤4294967000):Ret Go.Proofs.Tryz.prog 104 [.v (.str s),.v (.str p)] (strs (spl p 0 s)):=by
 have hp1 : 1≤p.length:=List.length_pos_iff.2 hp
 have hl:(splitL s p).length≤s.length+1:=by rw [split_spl hp];exact spl_len
 rw [← split_spl hp]
 refine ret_split (by omega) hp1 (fun x hx=>by rw [split_spl hp] at hx;have:=spl_mem hx;simp only [maxLen];omega) ?_ (by simp only [maxLen];omega)
 unfold splitL
 rw [List.length_map]
 exact Lib.splitB_all ⟨p.toArray⟩ (by show 1≤p.toArray.size;simpa using hp1) 0 _ _ rfl
def wordsF (s:List UInt8):List (List UInt8):=if s=[45] then [] else spl [32] 0 s
def c_impl_words:C := (.seq (.ops [] [⟨none,.asg 1 (.k (.nils (.str [])))⟩] []) (.seq (.opc [] [⟨none,.mv (.v 0)⟩,⟨none,.bin .eql (.t 0) (.k (.str [45]))⟩] [] (.t 1) (.seq (.ops [] [⟨none,.asg 1 (.k (.nils (.str [])))⟩] []) .ret) .skip) (.seq (.ops [] [⟨none,.mv (.v 0)⟩,⟨none,.call 104 [(.t 0),(.k (.str [32]))]⟩,⟨none,.asg 1 (.t 1)⟩] []) .ret)))
def tr_impl_words:List Nat:=[0,2]
def rs_impl_words:List RS:=[.t 1]
theorem ok_impl_words:fnOk Go.Proofs.Tryz.prog Go.Proofs.Tryz.f117 tr_impl_words c_impl_words 1 rs_impl_words=true:=by decide +kernel
theorem ret_impl_words (s:List UInt8) (hs:s.length≤4294967000):Ret Go.Proofs.Tryz.prog 117 [.v (.str s)] (strs (wordsF s)):=by
 unfold wordsF
 refine ret_fn Go.Proofs.Tryz.func117 ok_impl_words rfl (show 1<500 by decide) rfl ?_;unfold c_impl_words tr_impl_words rs_impl_words;simp only [go_sem,Nat.reduceLT,Nat.reduceAdd,Nat.reduceSub,↓reduceIte]
 refine ⟨fun h=>by rw [if_pos h],fun h=>call_of (ret_spl (by decide) hs) rfl (.inl (nv_strs _)) ?_⟩
 simp only [go_sem,Nat.reduceLT,Nat.reduceAdd,Nat.reduceSub,↓reduceIte]
 rw [if_neg (by simpa using h)]
def partF (l:List (List UInt8)):List UInt8:=if l=[] then [45] else Lib.join l [32]
def c_impl_part:C := (.seq (.ops [] [⟨none,.asg 1 (.k (.str []))⟩] []) (.seq (.opc [] [⟨none,.mv (.v 0)⟩,⟨none,.len (.t 0)⟩,⟨none,.bin .eql (.t 1) (.i 0)⟩] [] (.t 2) (.seq (.ops [] [⟨none,.asg 1 (.k (.str [45]))⟩] []) .ret) .skip) (.seq (.ops [] [⟨none,.mv (.v 0)⟩,⟨none,.call 66 [(.t 0),(.k (.str [32]))]⟩,⟨none,.asg 1 (.t 1)⟩] []) .ret)))
def tr_impl_part:List Nat:=[0,2]
def rs_impl_part:List RS:=[.t 1]
theorem ok_impl_part:fnOk Go.Proofs.Tryz.prog Go.Proofs.Tryz.f67 tr_impl_part c_impl_part 1 rs_impl_part=true:=by decide +kernel
theorem ret_impl_part (l:List (List UInt8)) (h1:l.length≤140737488355328) (h2:(Lib.join l [32]).length≤140737488355328):Ret Go.Proofs.Tryz.prog 67 [.v (strs l)] (.str (partF l)):=by
 unfold partF
 refine ret_fn Go.Proofs.Tryz.func67 ok_impl_part rfl (show 1<500 by decide) rfl ?_;unfold c_impl_part tr_impl_part rs_impl_part;simp only [go_sem,Nat.reduceLT,Nat.reduceAdd,Nat.reduceSub,↓reduceIte]
 refine ⟨fun h=>by rw [if_pos (List.length_eq_zero_iff.1 (by omega))],fun h=>call_of (ret_join h1 h2) rfl (.inl rfl) ?_⟩
 simp only [go_sem,Nat.reduceLT,Nat.reduceAdd,Nat.reduceSub,↓reduceIte]
 rw [if_neg (by rintro rfl;simp at h)]
def Sch.edT (s:Sch) (i:Nat):List UInt8:=Lib.itoa (s.fr.getD i 0)++62::Lib.itoa (s.to.getD i 0)
def Sch.eqT (s:Sch) (i:Nat):List UInt8:=(s.lf.getD i Pth.zero).txt++61::(s.rt.getD i Pth.zero).txt
def Sch.edL (s:Sch) (n:Nat):List (List UInt8):=(List.range n).map s.edT
def Sch.eqL (s:Sch) (n:Nat):List (List UInt8):=(List.range n).map s.eqT
def Sch.txt (s:Sch):List UInt8:=Lib.join [Lib.itoa s.nd,partF (s.edL s.fr.length),partF (s.eqL s.lf.length)] [32,124,32]
structure TOk (s:Sch):Prop where
 nd : 0≤s.nd∧s.nd≤8
 f8:s.fr.length≤8
 to:s.to.length=s.fr.length
 ed:∀ i,i<s.fr.length→(0≤s.fr.getD i 0∧s.fr.getD i 0<8)∧0≤s.to.getD i 0∧s.to.getD i 0<8
 l8:s.lf.length≤8
 rt:s.rt.length=s.lf.length
 eq:∀ i,i<s.lf.length→POk (s.lf.getD i Pth.zero)∧POk (s.rt.getD i Pth.zero)
theorem fol_range {fr to:List Int}:∀ {l:List Int} {x y:Int},fol fr to x l=some y→∀ i,i<l.length→0≤l.getD i 0∧l.getD i 0<fr.length
 | [],_,_,_,i,hi=>by simp at hi
 | e::r,x,y,h,i,hi=>by
  rw [fol] at h
  split at h
  ·rename_i hc
   simp only [Bool.and_eq_true,inR,decide_eq_true_eq] at hc
   cases i with
   | zero=>exact ⟨hc.1.1,by show e<_;omega⟩
   | succ i=>exact fol_range h i (by simpa using hi)
  ·cases h
theorem tok_of {s:Sch} (h:s.ok=true):TOk s:=by
 obtain ⟨h1,h2,h3⟩:=ok_len h
 have hs:=sok_of h1
 have h8:=hs.n8
 have hp:∀ {p:Pth} {y:Int},s.endO p=some y→POk p:=fun {p y} hy=>by
  obtain ⟨a1,a2,a3⟩:=endO_fol hy
  exact ⟨by omega,a2,fun i hi=>by have:=fol_range a3 i hi;have:=hs.f8;omega⟩
 refine ⟨⟨hs.n0,hs.n8⟩,hs.f8,hs.to,fun i hi=>?_,h2,h3,fun i hi=>?_⟩
 ·have:=mapB_get hs.fr hi
  have:=mapB_get hs.tos (show i<s.to.length by rw [hs.to];exact hi)
  omega
 ·obtain ⟨y,b1,b2,_⟩:=ok_eq h hi
  exact ⟨hp b1,hp b2⟩
section
variable {s:Sch} (h:TOk s)
include h
theorem TOk.edl {i:Nat} (hi:i<s.fr.length):(s.edT i).length≤41:=by
 have:=h.ed i hi
 have:=itoa_len (n:=s.fr.getD i 0) (by omega) (by omega)
 have:=itoa_len (n:=s.to.getD i 0) (by omega) (by omega)
 unfold Sch.edT;simp only [List.length_append,List.length_cons];omega
theorem TOk.eql {i:Nat} (hi:i<s.lf.length):(s.eqT i).length≤81:=by
 have:=(h.eq i hi).1.tlen
 have:=(h.eq i hi).2.tlen
 unfold Sch.eqT;simp only [List.length_append,List.length_cons];omega
end
theorem join_le {l:List (List UInt8)} {sep:List UInt8} {b:Nat} (h:∀ x∈l,x.length≤b):(Lib.join l sep).length≤l.length*(b+sep.length):=by
 cases l with
 | nil=>simp [Lib.join_nil]
 | cons x r =>
  rw [Lib.join_cons]
  have key:∀ r:List (List UInt8),(∀ x∈r,x.length≤b)→(Lib.joinTail sep r).length≤r.length*(b+sep.length):=by
   intro r
   induction r with
   | nil=>intro _;simp [Lib.joinTail]
   | cons y r ih =>
    intro hy
    have h1:=ih fun z hz=>hy z (List.mem_cons_of_mem _ hz)
    have h2:=hy y List.mem_cons_self
    have e:Lib.joinTail sep (y::r)=(sep++y)++Lib.joinTail sep r:=rfl
    rw [e,List.length_append,List.length_append,List.length_cons,Nat.succ_mul];omega
  have h1:=key r fun z hz=>h z (List.mem_cons_of_mem _ hz)
  have h2:=h x List.mem_cons_self
  rw [List.length_append,List.length_cons,Nat.succ_mul];omega
theorem part_le {l:List (List UInt8)} {b:Nat} (h:∀ x∈l,x.length≤b):(partF l).length≤l.length*(b+1)+1:=by
 unfold partF
 split
 ·simp
 ·exact Nat.le_trans (join_le h) (by simp)
theorem edL_succ {s:Sch} {i:Nat}:s.edL (i+1)=s.edL i++[s.edT i]:=by unfold Sch.edL;rw [List.range_succ,List.map_append];rfl
theorem eqL_succ {s:Sch} {i:Nat}:s.eqL (i+1)=s.eqL i++[s.eqT i]:=by unfold Sch.eqL;rw [List.range_succ,List.map_append];rfl
theorem edL_le {s:Sch} (h:TOk s) {n:Nat} (hn:n≤s.fr.length):∀ x∈s.edL n,x.length≤41:=fun x hx=>by
 obtain ⟨i,hi,rfl⟩:=List.mem_map.1 hx
 exact h.edl (by have:=List.mem_range.1 hi;omega)
theorem eqL_le {s:Sch} (h:TOk s) {n:Nat} (hn:n≤s.lf.length):∀ x∈s.eqL n,x.length≤81:=fun x hx=>by
 obtain ⟨i,hi,rfl⟩:=List.mem_map.1 hx
 exact h.eql (by have:=List.mem_range.1 hi;omega)
theorem edL_len {s:Sch} {n:Nat}:(s.edL n).length=n:=by simp [Sch.edL]
theorem eqL_len {s:Sch} {n:Nat}:(s.eqL n).length=n:=by simp [Sch.eqL]
theorem txt_len {s:Sch} (h:TOk s):s.txt.length≤3400:=by
 have h0:=itoa_len h.nd.1 (by have:=h.nd;omega)
 have h1:=part_le (edL_le h (Nat.le_refl _))
 have h2:=part_le (eqL_le h (Nat.le_refl _))
 rw [edL_len] at h1
 rw [eqL_len] at h2
 have:=h.f8
 have:=h.l8
 unfold Sch.txt
 rw [join_two,join_two,Lib.join_one]
 simp only [List.length_append,List.length_cons,List.length_nil]
 omega
def c_impl_Schema_text:C := (.seq (.ops [] [⟨none,.asg 1 (.k (.str []))⟩] []) (.seq (.ops [] [⟨none,.bldS (.str []) 0 []⟩,⟨none,.bldS (.str []) 0 []⟩,⟨none,.asg 2 (.t 0)⟩,⟨none,.asg 3 (.t 1)⟩] []) (.seq (.seq (.ops [6] [⟨none,.mv (.v 0)⟩,⟨none,.nck (.t 0)⟩,⟨none,.fA 1 (.t 1)⟩,⟨none,.ld (.t 2)⟩,⟨none,.len (.t 3)⟩,⟨none,.asg 7 (.i 0)⟩] [(6,4)]) (.block 0 (.loop (.opq [] [⟨none,.bin .lss (.v 7) (.v 6)⟩] [] (.t 0) .skip (.exit 0) (.seq (.block 1 (.seq (.ops [] [⟨none,.mv (.v 7)⟩,⟨none,.asg 4 (.t 0)⟩] []) (.ops [] [⟨none,.mv (.v 2)⟩,⟨none,.mv (.v 0)⟩,⟨none,.nck (.t 1)⟩,⟨none,.fA 1 (.t 2)⟩,⟨none,.ld (.t 3)⟩,⟨none,.mv (.v 4)⟩,⟨none,.idxA 1 (.t 4) (.t 5)⟩,⟨none,.ld (.t 6)⟩,⟨none,.call 51 [(.t 7),(.i 10)]⟩,⟨none,.bin .add (.t 8) (.k (.str [62]))⟩,⟨none,.mv (.v 0)⟩,⟨none,.nck (.t 10)⟩,⟨none,.fA 2 (.t 11)⟩,⟨none,.ld (.t 12)⟩,⟨none,.mv (.v 4)⟩,⟨none,.idxA 1 (.t 13) (.t 14)⟩,⟨none,.ld (.t 15)⟩,⟨none,.call 51 [(.t 16),(.i 10)]⟩,⟨none,.bin .add (.t 9) (.t 17)⟩,⟨none,.bldS (.str []) 1 [(0,(.t 18))]⟩,⟨none,.app 1 16 (.t 0) (.t 19)⟩,⟨none,.asg 2 (.t 20)⟩] []))) (.ops [] [⟨none,.bin .add (.v 7) (.i 1)⟩,⟨none,.asg 7 (.t 0)⟩] [])))))) (.seq (.seq (.ops [8] [⟨none,.mv (.v 0)⟩,⟨none,.nck (.t 0)⟩,⟨none,.fA 3 (.t 1)⟩,⟨none,.ld (.t 2)⟩,⟨none,.len (.t 3)⟩,⟨none,.asg 9 (.i 0)⟩] [(8,4)]) (.block 2 (.loop (.opq [] [⟨none,.bin .lss (.v 9) (.v 8)⟩] [] (.t 0) .skip (.exit 2) (.seq (.block 3 (.seq (.ops [] [⟨none,.mv (.v 9)⟩,⟨none,.asg 5 (.t 0)⟩] []) (.ops [] [⟨none,.mv (.v 3)⟩,⟨none,.mv (.v 0)⟩,⟨none,.nck (.t 1)⟩,⟨none,.fA 3 (.t 2)⟩,⟨none,.ld (.t 3)⟩,⟨none,.mv (.v 5)⟩,⟨none,.idxA 2 (.t 4) (.t 5)⟩,⟨none,.lda 2 (.t 6)⟩,⟨none,.call 65 [(.t 7)]⟩,⟨none,.bin .add (.t 8) (.k (.str [61]))⟩,⟨none,.mv (.v 0)⟩,⟨none,.nck (.t 10)⟩,⟨none,.fA 4 (.t 11)⟩,⟨none,.ld (.t 12)⟩,⟨none,.mv (.v 5)⟩,⟨none,.idxA 2 (.t 13) (.t 14)⟩,⟨none,.lda 2 (.t 15)⟩,⟨none,.call 65 [(.t 16)]⟩,⟨none,.bin .add (.t 9) (.t 17)⟩,⟨none,.bldS (.str []) 1 [(0,(.t 18))]⟩,⟨none,.app 1 16 (.t 0) (.t 19)⟩,⟨none,.asg 3 (.t 20)⟩] []))) (.ops [] [⟨none,.bin .add (.v 9) (.i 1)⟩,⟨none,.asg 9 (.t 0)⟩] [])))))) (.seq (.ops [] [⟨none,.mv (.v 0)⟩,⟨none,.nck (.t 0)⟩,⟨none,.fA 0 (.t 1)⟩,⟨none,.ld (.t 2)⟩,⟨none,.call 51 [(.t 3),(.i 10)]⟩,⟨none,.mv (.v 2)⟩,⟨none,.call 67 [(.t 5)]⟩,⟨none,.mv (.v 3)⟩,⟨none,.call 67 [(.t 7)]⟩,⟨none,.bldS (.str []) 3 [(0,(.t 4)),(1,(.t 6)),(2,(.t 8))]⟩,⟨none,.call 66 [(.t 9),(.k (.str [32,124,32]))]⟩,⟨none,.asg 1 (.t 10)⟩] []) .ret)))))
def tr_impl_Schema_text:List Nat:=[0,2,3,4,5,6,13,14,43,44]
def rs_impl_Schema_text:List RS:=[.t 1]
theorem ok_impl_Schema_text:fnOk Go.Proofs.Tryz.prog Go.Proofs.Tryz.f49 tr_impl_Schema_text c_impl_Schema_text 1 rs_impl_Schema_text=true:=by decide +kernel
theorem ret_impl_Schema_text (s:Sch) (h:TOk s):Ret Go.Proofs.Tryz.prog 49 [.v (.ptr s.cells)] (.str s.txt):=by
 have hf8:=h.f8
 have hl8:=h.l8
 have hto:=h.to
 have hrt:=h.rt
 refine ret_fn Go.Proofs.Tryz.func49 ok_impl_Schema_text rfl (show 1<500 by decide) rfl ?_;unfold c_impl_Schema_text tr_impl_Schema_text rs_impl_Schema_text;simp only [go_sem,Nat.reduceLT,Nat.reduceAdd,Nat.reduceSub,↓reduceIte]
 refine loop_set [4] (fun (i:Nat)=>[(2,.o (strs (s.edL i))),(7,.int .i64 i)]) (fun i=>i≤s.fr.length) (fun i=>s.fr.length-i) 0 (by simp only [go_sem,Nat.reduceLT,↓reduceIte];rfl) (Nat.zero_le _) rfl ?_
 intro i hi
 simp only [go_sem,Nat.reduceLT,Nat.reduceAdd,Nat.reduceSub,↓reduceIte]
 refine ⟨fun h1=>⟨h1,call_of ret_itoa rfl (.inl rfl) ?_⟩,fun h1=>?_⟩
 ·simp only [go_sem,Nat.reduceLT,Nat.reduceAdd,Nat.reduceSub,↓reduceIte]
  obtain ⟨⟨a0,a1⟩,b0,b1⟩:=h.ed i h1
  have l1:=itoa_len a0 (by omega)
  have l2:=itoa_len b0 (by omega)
  refine ⟨by simp only [maxLen];omega,by omega,call_of ret_itoa rfl (.inl rfl) ?_⟩
  simp only [go_sem,Nat.reduceLT,Nat.reduceAdd,Nat.reduceSub,Nat.reduceBEq,↓reduceIte]
  refine ⟨by rw [List.length_append];simp only [maxLen,List.length_cons,List.length_nil];omega,by rw [edL_len];omega,i+1,h1,by omega,?_⟩
  rw [wrap_small (by omega) (by omega),edL_succ,List.append_assoc]
  rfl
 ·rw [show i=s.fr.length by omega]
  have nvp:∀ p:Pth,(D.str p.txt).novw=true:=fun _=>rfl
  refine loop_set [5] (fun (i:Nat)=>[(3,.o (strs (s.eqL i))),(9,.int .i64 i)]) (fun i=>i≤s.lf.length) (fun i=>s.lf.length-i) 0 (by simp only [go_sem,Nat.reduceLT,↓reduceIte];rfl) (Nat.zero_le _) rfl ?_
  intro i hi
  simp only [go_sem,Nat.reduceLT,Nat.reduceAdd,Nat.reduceSub,Nat.reduceLeDiff,↓reduceIte]
  refine ⟨fun h1=>?_,fun h1=>?_⟩
  ·obtain ⟨p1,p2⟩:=h.eq i h1
   have l1:=p1.tlen
   have l2:=p2.tlen
   refine ⟨h1,call_of (ret_impl_Path_text _ p1) rfl (.inl rfl) ?_⟩
   simp only [go_sem,Nat.reduceLT,Nat.reduceAdd,Nat.reduceSub,Nat.reduceLeDiff,↓reduceIte]
   refine ⟨by simp only [maxLen];omega,by omega,call_of (ret_impl_Path_text _ p2) rfl (.inl rfl) ?_⟩
   simp only [go_sem,Nat.reduceLT,Nat.reduceAdd,Nat.reduceSub,Nat.reduceBEq,↓reduceIte]
   refine ⟨by rw [List.length_append];simp only [maxLen,List.length_cons,List.length_nil];omega,by rw [eqL_len];omega,i+1,h1,by omega,?_⟩
   rw [wrap_small (by omega) (by omega),eqL_succ,List.append_assoc]
   rfl
  ·rw [show i=s.lf.length by omega]
   have e1:=part_le (edL_le h (Nat.le_refl _))
   have e2:=part_le (eqL_le h (Nat.le_refl _))
   have j1:=join_le (sep:=[32]) (edL_le h (Nat.le_refl _))
   have j2:=join_le (sep:=[32]) (eqL_le h (Nat.le_refl _))
   have ht:=txt_len h
   rw [edL_len] at e1 j1
   rw [eqL_len] at e2 j2
   simp only [List.length_cons,List.length_nil] at j1 j2
   refine call_of ret_itoa rfl (.inl rfl) ?_
   simp only [go_sem,Nat.reduceLT,Nat.reduceAdd,Nat.reduceSub,↓reduceIte]
   refine call_of (ret_impl_part _ (by rw [edL_len];omega) (by omega)) rfl (.inl rfl) ?_
   simp only [go_sem,Nat.reduceLT,Nat.reduceAdd,Nat.reduceSub,↓reduceIte]
   refine call_of (ret_impl_part _ (by rw [eqL_len];omega) (by omega)) rfl (.inl rfl) ?_
   simp only [go_sem,Nat.reduceLT,Nat.reduceAdd,Nat.reduceSub,↓reduceIte]
   refine call_of (ret_join (l:=[_,_,_]) (by simp) (by unfold Sch.txt at ht;omega)) rfl (.inl rfl) ?_
   simp only [go_sem,Nat.reduceLT,Nat.reduceAdd,Nat.reduceSub,Nat.reduceBEq,Nat.reduceLeDiff,↓reduceIte]
   rfl
def catL (l:List (List UInt8)):List UInt8:=(l.map fun x=>32::x).flatten
theorem cat_join {l:List (List UInt8)}:catL l=if l=[] then [] else 32::Lib.join l [32]:=by
 cases l with
 | nil=>rfl
 | cons x r=>rw [if_neg (by simp),Lib.join_cons];rfl
theorem cat_snoc {l:List (List UInt8)} {x:List UInt8}:catL (l++[x])=catL l++32::x:=by unfold catL;simp
theorem cat_le {l:List (List UInt8)} {b:Nat} (h:∀ x∈l,x.length≤b):(catL l).length≤l.length*(b+1):=by
 induction l with
 | nil=>simp [catL]
 | cons x l ih =>
  have h1:=ih fun y hy=>h y (List.mem_cons_of_mem _ hy)
  have h2:=h x List.mem_cons_self
  have e:catL (x::l)=(32::x)++catL l:=rfl
  rw [e,List.length_append,List.length_cons,List.length_cons,Nat.succ_mul];omega
theorem cat_part {l:List (List UInt8)}:(if catL l=[] then [32,45] else catL l)=32::partF l:=by
 rw [cat_join]
 unfold partF
 by_cases h:l=[]
 ·subst h;rfl
 ·rw [if_neg h,if_neg h,if_neg (by simp)]
theorem txt_cat {s:Sch}:s.txt=Lib.itoa s.nd++[32,124]++32::partF (s.edL s.fr.length)++[32,124]++32::partF (s.eqL s.lf.length):=by
 unfold Sch.txt
 rw [join_two,join_two,Lib.join_one]
 simp
def c_spec_l36Whole:C := (.seq (.ops [2] [⟨none,.boxv 5 (.v 0)⟩,⟨none,.asg 1 (.k (.str []))⟩] [(2,0)]) (.seq (.ops [] [⟨none,.asg 3 (.k (.str []))⟩,⟨none,.asg 4 (.k (.str []))⟩] []) (.seq (.seq (.ops [] [⟨none,.asg 5 (.i 0)⟩] []) (.block 0 (.loop (.seq (.opc [] [⟨none,.mv (.v 5)⟩,⟨none,.fA 1 (.v 2)⟩,⟨none,.ld (.t 1)⟩,⟨none,.len (.t 2)⟩,⟨none,.bin .lss (.t 0) (.t 3)⟩] [] (.t 4) .skip (.exit 0)) (.seq (.block 1 (.ops [] [⟨none,.mv (.v 3)⟩,⟨none,.bin .add (.t 0) (.k (.str [32]))⟩,⟨none,.fA 1 (.v 2)⟩,⟨none,.ld (.t 2)⟩,⟨none,.mv (.v 5)⟩,⟨none,.idxA 1 (.t 3) (.t 4)⟩,⟨none,.ld (.t 5)⟩,⟨none,.call 43 [(.t 6)]⟩,⟨none,.bin .add (.t 1) (.t 7)⟩,⟨none,.bin .add (.t 8) (.k (.str [62]))⟩,⟨none,.fA 2 (.v 2)⟩,⟨none,.ld (.t 10)⟩,⟨none,.mv (.v 5)⟩,⟨none,.idxA 1 (.t 11) (.t 12)⟩,⟨none,.ld (.t 13)⟩,⟨none,.call 43 [(.t 14)]⟩,⟨none,.bin .add (.t 9) (.t 15)⟩,⟨none,.asg 3 (.t 16)⟩] [])) (.ops [] [⟨none,.mv (.v 5)⟩,⟨none,.bin .add (.t 0) (.i 1)⟩,⟨none,.asg 5 (.t 1)⟩] [])))))) (.seq (.seq (.ops [] [⟨none,.asg 6 (.i 0)⟩] []) (.block 2 (.loop (.seq (.opc [] [⟨none,.mv (.v 6)⟩,⟨none,.fA 3 (.v 2)⟩,⟨none,.ld (.t 1)⟩,⟨none,.len (.t 2)⟩,⟨none,.bin .lss (.t 0) (.t 3)⟩] [] (.t 4) .skip (.exit 2)) (.seq (.block 3 (.ops [] [⟨none,.mv (.v 4)⟩,⟨none,.bin .add (.t 0) (.k (.str [32]))⟩,⟨none,.fA 3 (.v 2)⟩,⟨none,.ld (.t 2)⟩,⟨none,.mv (.v 6)⟩,⟨none,.idxA 2 (.t 3) (.t 4)⟩,⟨none,.lda 2 (.t 5)⟩,⟨none,.call 47 [(.t 6)]⟩,⟨none,.bin .add (.t 1) (.t 7)⟩,⟨none,.bin .add (.t 8) (.k (.str [61]))⟩,⟨none,.fA 4 (.v 2)⟩,⟨none,.ld (.t 10)⟩,⟨none,.mv (.v 6)⟩,⟨none,.idxA 2 (.t 11) (.t 12)⟩,⟨none,.lda 2 (.t 13)⟩,⟨none,.call 47 [(.t 14)]⟩,⟨none,.bin .add (.t 9) (.t 15)⟩,⟨none,.asg 4 (.t 16)⟩] [])) (.ops [] [⟨none,.mv (.v 6)⟩,⟨none,.bin .add (.t 0) (.i 1)⟩,⟨none,.asg 6 (.t 1)⟩] [])))))) (.seq (.opc [] [⟨none,.mv (.v 3)⟩,⟨none,.bin .eql (.t 0) (.k (.str []))⟩] [] (.t 1) (.ops [] [⟨none,.asg 3 (.k (.str [32,45]))⟩] []) .skip) (.seq (.opc [] [⟨none,.mv (.v 4)⟩,⟨none,.bin .eql (.t 0) (.k (.str []))⟩] [] (.t 1) (.ops [] [⟨none,.asg 4 (.k (.str [32,45]))⟩] []) .skip) (.seq (.ops [] [⟨none,.fA 0 (.v 2)⟩,⟨none,.ld (.t 0)⟩,⟨none,.call 43 [(.t 1)]⟩,⟨none,.bin .add (.t 2) (.k (.str [32,124]))⟩,⟨none,.mv (.v 3)⟩,⟨none,.bin .add (.t 3) (.t 4)⟩,⟨none,.bin .add (.t 5) (.k (.str [32,124]))⟩,⟨none,.mv (.v 4)⟩,⟨none,.bin .add (.t 6) (.t 7)⟩,⟨none,.asg 1 (.t 8)⟩] []) .ret)))))))
def tr_spec_l36Whole:List Nat:=[0,2,1,3,4,5,6]
def rs_spec_l36Whole:List RS:=[.t 1]
theorem ok_spec_l36Whole:fnOk Go.Proofs.Tryz.prog Go.Proofs.Tryz.f33 tr_spec_l36Whole c_spec_l36Whole 1 rs_spec_l36Whole=true:=by decide +kernel
theorem ret_spec_l36Whole (s:Sch) (h:TOk s):Ret Go.Proofs.Tryz.prog 33 [.v (Sch.d s)] (.str s.txt):=by
 have hf8:=h.f8
 have hl8:=h.l8
 have hto:=h.to
 have hrt:=h.rt
 refine ret_fn Go.Proofs.Tryz.func33 ok_spec_l36Whole rfl (show 1<500 by decide) rfl ?_;unfold c_spec_l36Whole tr_spec_l36Whole rs_spec_l36Whole;simp only [go_sem,Nat.reduceLT,Nat.reduceAdd,Nat.reduceSub,↓reduceIte]
 refine loop_set [] (fun (i:Nat)=>[(3,.str (catL (s.edL i))),(5,.int .i64 i)]) (fun i=>i≤s.fr.length) (fun i=>s.fr.length-i) 0 (by simp only [go_sem];rfl) (Nat.zero_le _) rfl ?_
 intro i hi
 simp only [go_sem,Nat.reduceLT,Nat.reduceAdd,Nat.reduceSub,↓reduceIte]
 have hc:=cat_le (edL_le h hi)
 rw [edL_len] at hc
 refine ⟨fun h1=>?_,fun h1=>?_⟩
 ·obtain ⟨⟨a0,a1⟩,b0,b1⟩:=h.ed i h1
  have l1:=itoa_len a0 (by omega)
  have l2:=itoa_len b0 (by omega)
  refine ⟨by simp only [maxLen];omega,h1,call_of (ret_dec a0 (by omega)) rfl (.inl rfl) ?_⟩
  simp only [go_sem,Nat.reduceLT,Nat.reduceAdd,Nat.reduceSub,↓reduceIte]
  refine ⟨by rw [List.length_append];simp only [maxLen,List.length_cons,List.length_nil];omega,by simp only [List.length_append,maxLen,List.length_cons,List.length_nil];omega,by omega,call_of (ret_dec b0 (by omega)) rfl (.inl rfl) ?_⟩
  simp only [go_sem,Nat.reduceLT,Nat.reduceAdd,Nat.reduceSub,↓reduceIte]
  refine ⟨by simp only [List.length_append,maxLen,List.length_cons,List.length_nil];omega,i+1,h1,by omega,?_⟩
  rw [wrap_small (by omega) (by omega),edL_succ,cat_snoc]
  unfold Sch.edT
  simp only [List.append_assoc,List.cons_append,List.nil_append]
  rfl
 ·rw [show i=s.fr.length by omega]
  refine loop_set [] (fun (i:Nat)=>[(4,.str (catL (s.eqL i))),(6,.int .i64 i)]) (fun i=>i≤s.lf.length) (fun i=>s.lf.length-i) 0 (by simp only [go_sem];rfl) (Nat.zero_le _) rfl ?_
  intro i hi
  simp only [go_sem,Nat.reduceLT,Nat.reduceAdd,Nat.reduceSub,Nat.reduceLeDiff,↓reduceIte]
  have hc2:=cat_le (eqL_le h hi)
  rw [eqL_len] at hc2
  refine ⟨fun h1=>?_,fun h1=>?_⟩
  ·obtain ⟨p1,p2⟩:=h.eq i h1
   have l1:=p1.tlen
   have l2:=p2.tlen
   refine ⟨by simp only [maxLen];omega,h1,call_of (ret_spec_l36Text _ p1) rfl (.inl rfl) ?_⟩
   simp only [go_sem,Nat.reduceLT,Nat.reduceAdd,Nat.reduceSub,Nat.reduceLeDiff,↓reduceIte]
   refine ⟨by rw [List.length_append];simp only [maxLen,List.length_cons,List.length_nil];omega,by simp only [List.length_append,maxLen,List.length_cons,List.length_nil];omega,by omega,call_of (ret_spec_l36Text _ p2) rfl (.inl rfl) ?_⟩
   simp only [go_sem,Nat.reduceLT,Nat.reduceAdd,Nat.reduceSub,↓reduceIte]
   refine ⟨by simp only [List.length_append,maxLen,List.length_cons,List.length_nil];omega,i+1,h1,by omega,?_⟩
   rw [wrap_small (by omega) (by omega),eqL_succ,cat_snoc]
   unfold Sch.eqT
   simp only [List.append_assoc,List.cons_append,List.nil_append]
   rfl
  ·rw [show i=s.lf.length by omega]
   have e1:=cat_le (edL_le h (Nat.le_refl _))
   have e2:=cat_le (eqL_le h (Nat.le_refl _))
   rw [edL_len] at e1
   rw [eqL_len] at e2
   have l0:=itoa_len h.nd.1 (by have:=h.nd;omega)
   have q1:=cat_part (l:=s.edL s.fr.length)
   have q2:=cat_part (l:=s.eqL s.lf.length)
   rw [txt_cat,← q1,← q2]
   refine ⟨fun h1=>⟨fun h2=>?_,fun h2=>?_⟩,fun h1=>⟨fun h2=>?_,fun h2=>?_⟩⟩
   all_goals
    refine call_of (ret_dec h.nd.1 (by have:=h.nd;omega)) rfl (.inl rfl) ?_
    simp only [go_sem,Nat.reduceLT,Nat.reduceAdd,Nat.reduceSub,↓reduceIte]
   ·rw [if_pos h1,if_pos h2]
    exact ⟨by simp only [maxLen];omega,by simp only [List.length_append,maxLen,List.length_cons,List.length_nil];omega,by simp only [List.length_append,maxLen,List.length_cons,List.length_nil];omega,by simp only [List.length_append,maxLen,List.length_cons,List.length_nil];omega,rfl⟩
   ·rw [if_pos h1,if_neg (by simpa using h2)]
    exact ⟨by simp only [maxLen];omega,by simp only [List.length_append,maxLen,List.length_cons,List.length_nil];omega,by simp only [List.length_append,maxLen,List.length_cons,List.length_nil];omega,by simp only [List.length_append,maxLen,List.length_cons,List.length_nil];omega,rfl⟩
   ·rw [if_neg (by simpa using h1),if_pos h2]
    exact ⟨by simp only [maxLen];omega,by simp only [List.length_append,maxLen,List.length_cons,List.length_nil];omega,by simp only [List.length_append,maxLen,List.length_cons,List.length_nil];omega,by simp only [List.length_append,maxLen,List.length_cons,List.length_nil];omega,rfl⟩
   ·rw [if_neg (by simpa using h1),if_neg (by simpa using h2)]
    exact ⟨by simp only [maxLen];omega,by simp only [List.length_append,maxLen,List.length_cons,List.length_nil];omega,by simp only [List.length_append,maxLen,List.length_cons,List.length_nil];omega,by simp only [List.length_append,maxLen,List.length_cons,List.length_nil];omega,rfl⟩
end Go.D3
namespace Go.D3
open Go
set_option maxRecDepth 100000
set_option maxHeartbeats 1000000
theorem row_str {a:List UInt8}:D.slice (.str []) [.str a]=strs [a]:=rfl
attribute [go_sem] row_str
def splitF (w:List UInt8):Option (Nat×Nat):=match numO 6 (Lib.cut w [62]).1,(Lib.cut w [62]).2.2,numO 6 (Lib.cut w [62]).2.1 with
 | some a,true,some b=>some (a,b)
 | _,_,_=>none
def splD:Option (Nat×Nat)→D
 | some (a,b)=>.o (.tup [ints [(a:Int),(b:Int)],.nifc])
 | none=>.o (.tup [ints [],eS])
def c_impl_split:C := (.seq (.ops [] [⟨none,.asg 2 (.k (.nils (.int .i64 0)))⟩,⟨none,.asg 3 (.k .nifc)⟩] []) (.seq (.ops [] [⟨none,.bldS (.int .i64 0) 0 []⟩,⟨none,.asg 4 (.t 0)⟩] []) (.seq (.seq (.ops [11,12] [⟨none,.mv (.v 1)⟩,⟨none,.bldS (.str []) 1 [(0,(.k (.str [])))]⟩,⟨none,.app 1 16 (.t 0) (.t 1)⟩,⟨none,.len (.t 2)⟩,⟨none,.asg 13 (.i 0)⟩] [(11,2),(12,3)]) (.block 0 (.loop (.opq [] [⟨none,.bin .lss (.v 13) (.v 12)⟩] [] (.t 0) .skip (.exit 0) (.seq (.block 1 (.seq (.ops [] [⟨none,.idxA 1 (.v 11) (.v 13)⟩,⟨none,.ld (.t 0)⟩,⟨none,.asg 5 (.t 1)⟩] []) (.seq (.ops [] [⟨none,.mv (.v 0)⟩,⟨none,.mv (.v 5)⟩,⟨none,.call 81 [(.t 0),(.t 1)]⟩,⟨none,.mv (.t 2)⟩,⟨none,.ext 0 (.t 3)⟩,⟨none,.ext 1 (.t 3)⟩,⟨none,.ext 2 (.t 3)⟩,⟨none,.asg 6 (.t 4)⟩,⟨none,.asg 7 (.t 5)⟩,⟨none,.asg 8 (.t 6)⟩] []) (.seq (.opc [] [⟨none,.mv (.v 5)⟩,⟨none,.bin .eql (.t 0) (.k (.str []))⟩] [] (.t 1) (.ops [] [⟨none,.mv (.v 0)⟩,⟨none,.asg 6 (.t 0)⟩,⟨none,.asg 8 (.k (.bool true))⟩] []) .skip) (.seq (.ops [] [⟨none,.mv (.v 6)⟩,⟨none,.call 116 [(.t 0)]⟩,⟨none,.mv (.t 1)⟩,⟨none,.ext 0 (.t 2)⟩,⟨none,.ext 1 (.t 2)⟩,⟨none,.asg 9 (.t 3)⟩,⟨none,.asg 10 (.t 4)⟩] []) (.seq (.opc [] [⟨none,.mv (.v 10)⟩,⟨none,.nilI true (.t 0)⟩,⟨none,.mv (.t 1)⟩,⟨some (2,false),.mv (.v 8)⟩,⟨some (2,false),.not (.t 3)⟩,⟨none,.pick (.t 2) (.k (.bool true)) (.t 4)⟩] [] (.t 5) (.seq (.ops [2] [⟨none,.ld (.g 0)⟩,⟨none,.mv (.k (.nils (.int .i64 0)))⟩,⟨none,.asg 3 (.t 0)⟩] [(2,1)]) .ret) .skip) (.seq (.ops [] [⟨none,.mv (.v 4)⟩,⟨none,.mv (.v 9)⟩,⟨none,.bldS (.int .i64 0) 1 [(0,(.t 1))]⟩,⟨none,.app 1 8 (.t 0) (.t 2)⟩,⟨none,.asg 4 (.t 3)⟩] []) (.ops [] [⟨none,.mv (.v 7)⟩,⟨none,.asg 0 (.t 0)⟩] [])))))))) (.ops [] [⟨none,.bin .add (.v 13) (.i 1)⟩,⟨none,.asg 13 (.t 0)⟩] [])))))) (.seq (.ops [] [⟨none,.mv (.v 4)⟩,⟨none,.asg 2 (.t 0)⟩,⟨none,.asg 3 (.k .nifc)⟩] []) .ret))))
def tr_impl_split:List Nat:=[0,1,4,5,6,8,9,10,11,12,13,17,18,19]
def rs_impl_split:List RS:=[.t 2,.t 3]
theorem ok_impl_split:fnOk Go.Proofs.Tryz.prog Go.Proofs.Tryz.f118 tr_impl_split c_impl_split 2 rs_impl_split=true:=by decide +kernel
theorem ret_impl_split (w:List UInt8) (hw:w.length≤4294967000):RetG Go.Proofs.Tryz.prog 118 [.str w,.sub 0 []] [.row (.str []) [.str [62]]] (splD (splitF w)) [.dead]:=by
 refine ret_fnG .tree Go.Proofs.Tryz.func118 rfl ok_impl_split rfl ⟨by simp only [List.length_cons,List.length_nil];decide,by simp only [List.length_cons,List.length_nil];decide⟩ rfl ?_;unfold c_impl_split tr_impl_split rs_impl_split;simp only [go_sem,Nat.reduceLT,Nat.reduceAdd,Nat.reduceSub,Nat.reduceBEq,Nat.reduceLeDiff,↓reduceIte]
 refine ⟨by decide,?_⟩
 refine loop_set [5,6,7,8,9,10] (fun (p:Nat×List UInt8×List Int)=>[(0,.str p.2.1),(4,.o (ints p.2.2)),(13,.int .i64 p.1)])
  (fun p=>(p.1=0∧p.2.1=w∧p.2.2=[])∨(p.1=1∧(Lib.cut w [62]).2.2=true∧p.2.1=(Lib.cut w [62]).2.1∧∃ a,numO 6 (Lib.cut w [62]).1=some a∧p.2.2=[(a:Int)])∨(p.1=2∧∃ a b,splitF w=some (a,b)∧p.2.2=[(a:Int),(b:Int)]))
  (fun p=>2-p.1) (0,w,[]) (by simp only [go_sem,Nat.reduceLT,↓reduceIte];rfl) (.inl ⟨rfl,rfl,rfl⟩) rfl ?_
 rintro ⟨i,u,l⟩ h
 simp only at h
 rcases h with ⟨rfl,rfl,rfl⟩ | ⟨rfl,hf,rfl,a,ha,rfl⟩ | ⟨rfl,a,b,hab,rfl⟩
 all_goals simp only [go_sem,Nat.reduceLT,Nat.reduceAdd,Nat.reduceSub,Nat.reduceBEq,Nat.reduceLeDiff,↓reduceIte]
 ·refine call_of (ret_cut (by omega)) rfl (.inl rfl) ?_
  simp only [go_sem,Nat.reduceLT,Nat.reduceAdd,Nat.reduceSub,↓reduceIte]
  intro _
  refine call_of (ret_impl_digits _) rfl (.inr trivial) ?_
  cases ha:numO 6 (Lib.cut u [62]).1 with
  | none =>
   have hs:splitF u=none:=by unfold splitF;rw [ha]
   rw [hs]
   simp only [dgtD]
   simp only [go_sem,Nat.reduceLT,Nat.reduceAdd,Nat.reduceSub,Nat.reduceBEq,↓reduceIte]
   rfl
  | some a =>
   simp only [dgtD]
   simp only [go_sem,Nat.reduceLT,Nat.reduceAdd,Nat.reduceSub,Nat.reduceBEq,↓reduceIte]
   refine ⟨fun h=>?_,fun h=>⟨by decide,(1,(Lib.cut u [62]).2.1,[(a:Int)]),.inr (.inl ⟨rfl,by simpa using h,rfl,a,rfl,rfl⟩),Nat.lt_succ_self 1,rfl⟩⟩
   have hs:splitF u=none:=by
    unfold splitF
    rw [ha,show (Lib.cut u [62]).2.2=false by simpa using h]
   rw [hs];rfl
 ·have hcl:(Lib.cut w [62]).2.1.length≤w.length:=by
   unfold Lib.cut
   split
   ·simp only [List.length_drop];omega
   ·simp
  refine call_of (ret_cut (by omega)) rfl (.inl rfl) ?_
  simp only [go_sem,Nat.reduceLT,Nat.reduceAdd,Nat.reduceSub,↓reduceIte]
  refine ⟨?_,fun h=>by simp at h⟩
  refine call_of (ret_impl_digits _) rfl (.inr trivial) ?_
  cases hb:numO 6 (Lib.cut w [62]).2.1 with
  | none =>
   have hs:splitF w=none:=by unfold splitF;rw [ha,hf,hb]
   rw [hs]
   simp only [dgtD]
   simp only [go_sem,Nat.reduceLT,Nat.reduceAdd,Nat.reduceSub,Nat.reduceBEq,↓reduceIte]
   rfl
  | some b =>
   simp only [dgtD]
   simp only [go_sem,Nat.reduceLT,Nat.reduceAdd,Nat.reduceSub,Nat.reduceBEq,↓reduceIte]
   have hs:splitF w=some (a,b):=by unfold splitF;rw [ha,hf,hb]
   exact ⟨by decide,(2,_,[(a:Int),(b:Int)]),.inr (.inr ⟨rfl,a,b,hs,rfl⟩),Nat.lt_succ_self 0,rfl⟩
 ·rw [hab];rfl
end Go.D3
