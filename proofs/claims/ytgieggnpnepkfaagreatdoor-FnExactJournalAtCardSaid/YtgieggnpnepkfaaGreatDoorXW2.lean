/- 'FnExactJournalAt': whatever the arguments,the program's JournalAt answers as the reference does,leaves its arguments as they were,and shares no memory. The card: package-level variables hold at the start what the program's text lays. No further conditions. -/
import Derived.Test.YtgieggnpnepkfaaGreatDoorGB
import Derived.Test.YtgieggnpnepkfaaGreatDoorGF
import Derived.Test.YtgieggnpnepkfaaGreatDoorGG
import Derived.Test.YtgieggnpnepkfaaGreatDoorCards
import Derived.Test.YtgieggnpnepkfaaGreatDoorTie
import Derived.JoinedCond
import Derived.Deep.DeepHandedRow
import Derived.Lay
namespace Go.D3
open Go
set_option maxRecDepth 100000
set_option maxHeartbeats 4000000
def c_laws_FnExactJournalAt:C := (.seq (.ops [] [⟨none,.asg 2 (.k (.bool false))⟩] []) (.seq (.opc [] [⟨none,.mv (.v 0)⟩,⟨none,.lenS (.t 0)⟩,⟨none,.bin .gtr (.t 1) (.i 1048576)⟩] [] (.t 2) (.seq (.ops [] [⟨none,.asg 2 (.k (.bool true))⟩] []) .ret) .skip) (.seq (.ops [] [⟨none,.mv (.v 0)⟩,⟨none,.mv (.v 1)⟩,⟨none,.call 15 [(.t 0),(.t 1)]⟩,⟨none,.mv (.t 2)⟩,⟨none,.ext 0 (.t 3)⟩,⟨none,.ext 1 (.t 3)⟩,⟨none,.ext 2 (.t 3)⟩,⟨none,.asg 3 (.t 4)⟩,⟨none,.asg 4 (.t 5)⟩,⟨none,.asg 5 (.t 6)⟩] []) (.seq (.ops [] [⟨none,.mv (.v 0)⟩,⟨none,.mv (.v 1)⟩,⟨none,.call 16 [(.t 0),(.t 1)]⟩,⟨none,.mv (.t 2)⟩,⟨none,.ext 0 (.t 3)⟩,⟨none,.ext 1 (.t 3)⟩,⟨none,.ext 2 (.t 3)⟩,⟨none,.asg 6 (.t 4)⟩,⟨none,.asg 7 (.t 5)⟩,⟨none,.asg 8 (.t 6)⟩] []) (.seq (.opc [] [⟨none,.mv (.v 6)⟩,⟨none,.mv (.v 3)⟩,⟨none,.call 9 [(.t 0),(.t 1)]⟩,⟨none,.not (.t 2)⟩,⟨none,.mv (.t 3)⟩,⟨some (4,false),.mv (.v 7)⟩,⟨some (4,false),.mv (.v 4)⟩,⟨some (4,false),.call 10 [(.t 5),(.t 6)]⟩,⟨some (4,false),.not (.t 7)⟩,⟨none,.pick (.t 4) (.k (.bool true)) (.t 8)⟩,⟨none,.mv (.t 9)⟩,⟨some (10,false),.mv (.v 8)⟩,⟨some (10,false),.mv (.v 5)⟩,⟨some (10,false),.bin .neq (.t 11) (.t 12)⟩,⟨none,.pick (.t 10) (.k (.bool true)) (.t 13)⟩] [] (.t 14) (.seq (.ops [] [⟨none,.asg 2 (.k (.bool false))⟩] []) .ret) .skip) (.seq (.ops [] [⟨none,.asg 9 (.i 1)⟩] []) (.seq (.ops [] [⟨none,.mv (.v 6)⟩,⟨none,.mv (.v 9)⟩,⟨none,.calle 11 [(.t 0),(.t 1)]⟩,⟨none,.asg 9 (.t 2)⟩] []) (.seq (.ops [] [⟨none,.mv (.v 7)⟩,⟨none,.mv (.v 9)⟩,⟨none,.calle 12 [(.t 0),(.t 1)]⟩,⟨none,.asg 9 (.t 2)⟩] []) (.seq (.ops [] [⟨none,.asg 10 (.i 1)⟩] []) (.seq (.ops [] [⟨none,.mv (.v 6)⟩,⟨none,.mv (.v 10)⟩,⟨none,.call 13 [(.t 0),(.t 1)]⟩,⟨none,.asg 10 (.t 2)⟩] []) (.seq (.opc [] [⟨none,.mv (.v 10)⟩,⟨none,.bin .lss (.t 0) (.i 0)⟩] [] (.t 1) (.seq (.ops [] [⟨none,.asg 2 (.k (.bool false))⟩] []) .ret) .skip) (.seq (.ops [] [⟨none,.mv (.v 7)⟩,⟨none,.mv (.v 10)⟩,⟨none,.call 14 [(.t 0),(.t 1)]⟩,⟨none,.asg 10 (.t 2)⟩] []) (.seq (.opc [] [⟨none,.mv (.v 10)⟩,⟨none,.bin .lss (.t 0) (.i 0)⟩] [] (.t 1) (.seq (.ops [] [⟨none,.asg 2 (.k (.bool false))⟩] []) .ret) .skip) (.seq (.opc [] [⟨none,.mv (.v 10)⟩,⟨none,.mv (.v 9)⟩,⟨none,.bin .neq (.t 0) (.t 1)⟩] [] (.t 2) (.seq (.ops [] [⟨none,.asg 2 (.k (.bool false))⟩] []) .ret) .skip) (.seq (.ops [] [⟨none,.mv (.v 0)⟩,⟨none,.mv (.v 1)⟩,⟨none,.call 16 [(.t 0),(.t 1)]⟩,⟨none,.mv (.t 2)⟩,⟨none,.ext 0 (.t 3)⟩,⟨none,.ext 1 (.t 3)⟩,⟨none,.ext 2 (.t 3)⟩,⟨none,.asg 11 (.t 4)⟩,⟨none,.asg 12 (.t 5)⟩,⟨none,.asg 13 (.t 6)⟩] []) (.seq (.opc [] [⟨none,.mv (.v 11)⟩,⟨none,.mv (.v 3)⟩,⟨none,.call 9 [(.t 0),(.t 1)]⟩,⟨none,.not (.t 2)⟩,⟨none,.mv (.t 3)⟩,⟨some (4,false),.mv (.v 12)⟩,⟨some (4,false),.mv (.v 4)⟩,⟨some (4,false),.call 10 [(.t 5),(.t 6)]⟩,⟨some (4,false),.not (.t 7)⟩,⟨none,.pick (.t 4) (.k (.bool true)) (.t 8)⟩,⟨none,.mv (.t 9)⟩,⟨some (10,false),.mv (.v 13)⟩,⟨some (10,false),.mv (.v 5)⟩,⟨some (10,false),.bin .neq (.t 11) (.t 12)⟩,⟨none,.pick (.t 10) (.k (.bool true)) (.t 13)⟩] [] (.t 14) (.seq (.ops [] [⟨none,.asg 2 (.k (.bool false))⟩] []) .ret) .skip) (.seq (.ops [] [⟨none,.asg 10 (.i 1)⟩] []) (.seq (.ops [] [⟨none,.mv (.v 6)⟩,⟨none,.mv (.v 10)⟩,⟨none,.call 13 [(.t 0),(.t 1)]⟩,⟨none,.asg 10 (.t 2)⟩] []) (.seq (.opc [] [⟨none,.mv (.v 10)⟩,⟨none,.bin .lss (.t 0) (.i 0)⟩] [] (.t 1) (.seq (.ops [] [⟨none,.asg 2 (.k (.bool false))⟩] []) .ret) .skip) (.seq (.ops [] [⟨none,.mv (.v 7)⟩,⟨none,.mv (.v 10)⟩,⟨none,.call 14 [(.t 0),(.t 1)]⟩,⟨none,.asg 10 (.t 2)⟩] []) (.seq (.opc [] [⟨none,.mv (.v 10)⟩,⟨none,.bin .lss (.t 0) (.i 0)⟩] [] (.t 1) (.seq (.ops [] [⟨none,.asg 2 (.k (.bool false))⟩] []) .ret) .skip) (.seq (.opc [] [⟨none,.mv (.v 10)⟩,⟨none,.mv (.v 9)⟩,⟨none,.bin .neq (.t 0) (.t 1)⟩] [] (.t 2) (.seq (.ops [] [⟨none,.asg 2 (.k (.bool false))⟩] []) .ret) .skip) (.seq (.ops [] [⟨none,.asg 2 (.k (.bool true))⟩] []) .ret)))))))))))))))))))))))
def tr_laws_FnExactJournalAt:List Nat:=[0,1,4,5,6,7,8,9,10,11,12,13,14,15]
def rs_laws_FnExactJournalAt:List RS:=[.t 2]
theorem ok_laws_FnExactJournalAt:fnOk Go.Proofs.Tryz.prog Go.Proofs.Tryz.f4 tr_laws_FnExactJournalAt c_laws_FnExactJournalAt 2 rs_laws_FnExactJournalAt=true:=by decide +kernel
theorem law_at (t:List UInt8) (k:Int) (h:t.length≤1048576→∃ (a:List Int) (b:List (List Int)) (c:Int),a.length≤1048576∧cost2 b b.length≤1048576 ∧
  Ret Go.Proofs.Tryz.prog 15 [.v (.str t),.v (.int .i64 k)] (.tup [ints a,intss b,.int .i64 c])∧Ret Go.Proofs.Tryz.prog 16 [.v (.str t),.v (.int .i64 k)] (.tup [ints a,intss b,.int .i64 c])) :
  Ret Go.Proofs.Tryz.prog 4 [.v (.str t),.v (.int .i64 k)] (.bool true):=by
 refine ret_fn Go.Proofs.Tryz.func4 ok_laws_FnExactJournalAt rfl (show 2<500 by decide) rfl ?_;unfold c_laws_FnExactJournalAt tr_laws_FnExactJournalAt rs_laws_FnExactJournalAt;simp only [go_sem,Nat.reduceLT,Nat.reduceAdd,Nat.reduceSub,Nat.reduceEqDiff,Nat.reduceBEq,Nat.reduceLeDiff,↓reduceIte]
 refine fun h0=>?_
 obtain ⟨a,b,c,ha,hb,hsp,him⟩:=h (by omega)
 refine call_of hsp rfl (.inl (by simp only [D.novw,novwL,nv_ints,nv_intss,Bool.and_true])) ?_
 simp only [go_sem,Nat.reduceLT,Nat.reduceAdd,Nat.reduceSub,Nat.reduceEqDiff,Nat.reduceBEq,Nat.reduceLeDiff,↓reduceIte]
 refine call_of him rfl (.inl (by simp only [D.novw,novwL,nv_ints,nv_intss,Bool.and_true])) ?_
 simp only [go_sem,Nat.reduceLT,Nat.reduceAdd,Nat.reduceSub,Nat.reduceEqDiff,Nat.reduceBEq,Nat.reduceLeDiff,↓reduceIte]
 refine call_of (ret_laws_eqInt64S a) rfl (.inl rfl) ?_
 simp only [go_sem,Nat.reduceLT,Nat.reduceAdd,Nat.reduceSub,Nat.reduceEqDiff,Nat.reduceBEq,Nat.reduceLeDiff,↓reduceIte]
 refine callg_of (fun _=>ret_laws_eqInt64SS b) rfl (fun _=>rfl) (.inl rfl) ?_
 simp only [go_sem,Nat.reduceLT,Nat.reduceAdd,Nat.reduceSub,Nat.reduceEqDiff,Nat.reduceBEq,Nat.reduceLeDiff,↓reduceIte]
 refine ⟨fun hh=>by simp at hh,fun _=>?_⟩
 refine io_tree (ret_laws_markInt64S a 1 (by omega) (by omega)) rfl trivial rfl ?_
 simp only [go_sem,Nat.reduceLT,Nat.reduceAdd,Nat.reduceSub,Nat.reduceEqDiff,Nat.reduceBEq,Nat.reduceLeDiff,↓reduceIte]
 refine io_tree (ret_laws_markInt64SS b (1+a.length) (by omega) (by omega)) rfl trivial rfl ?_
 simp only [go_sem,Nat.reduceLT,Nat.reduceAdd,Nat.reduceSub,Nat.reduceEqDiff,Nat.reduceBEq,Nat.reduceLeDiff,↓reduceIte]
 refine call_of (ret_laws_heldInt64S a.length 1 (by omega) (by omega)) rfl (.inl rfl) ?_
 simp only [go_sem,Nat.reduceLT,Nat.reduceAdd,Nat.reduceSub,Nat.reduceEqDiff,Nat.reduceBEq,Nat.reduceLeDiff,↓reduceIte]
 refine ⟨fun hh=>by omega,fun _=>?_⟩
 refine call_of (ret_laws_heldInt64SS b (1+a.length) (by omega) (by omega)) rfl (.inl rfl) ?_
 simp only [go_sem,Nat.reduceLT,Nat.reduceAdd,Nat.reduceSub,Nat.reduceEqDiff,Nat.reduceBEq,Nat.reduceLeDiff,↓reduceIte]
 refine ⟨fun hh=>by omega,fun _=>?_⟩
 refine ⟨fun hh=>by simp at hh,fun _=>?_⟩
 refine call_of him rfl (.inl (by simp only [D.novw,novwL,nv_ints,nv_intss,Bool.and_true])) ?_
 simp only [go_sem,Nat.reduceLT,Nat.reduceAdd,Nat.reduceSub,Nat.reduceEqDiff,Nat.reduceBEq,Nat.reduceLeDiff,↓reduceIte]
 refine call_of (ret_laws_eqInt64S a) rfl (.inl rfl) ?_
 simp only [go_sem,Nat.reduceLT,Nat.reduceAdd,Nat.reduceSub,Nat.reduceEqDiff,Nat.reduceBEq,Nat.reduceLeDiff,↓reduceIte]
 refine callg_of (fun _=>ret_laws_eqInt64SS b) rfl (fun _=>rfl) (.inl rfl) ?_
 simp only [go_sem,Nat.reduceLT,Nat.reduceAdd,Nat.reduceSub,Nat.reduceEqDiff,Nat.reduceBEq,Nat.reduceLeDiff,↓reduceIte]
 refine ⟨fun hh=>by simp at hh,fun _=>?_⟩
 refine call_of (ret_laws_heldInt64S a.length 1 (by omega) (by omega)) rfl (.inl rfl) ?_
 simp only [go_sem,Nat.reduceLT,Nat.reduceAdd,Nat.reduceSub,Nat.reduceEqDiff,Nat.reduceBEq,Nat.reduceLeDiff,↓reduceIte]
 refine ⟨fun hh=>by omega,fun _=>?_⟩
 refine call_of (ret_laws_heldInt64SS b (1+a.length) (by omega) (by omega)) rfl (.inl rfl) ?_
 simp only [go_sem,Nat.reduceLT,Nat.reduceAdd,Nat.reduceSub,Nat.reduceEqDiff,Nat.reduceBEq,Nat.reduceLeDiff,↓reduceIte]
 refine ⟨fun hh=>by omega,fun _=>?_⟩
 simp
end Go.D3
namespace Go.D3
open Go
set_option maxRecDepth 100000
set_option maxHeartbeats 4000000
theorem getD_set_self' {α:Type} {l:List α} {i:Nat} {x d:α} (h:i<l.length):(l.set i x).getD i d=x:=by
 rw [List.getD_eq_getElem?_getD,List.getElem?_set_self h];rfl
theorem dat_kid1 {l:List Dat} {i:Nat} (h:i<l.length):(((lst Dat.d Dat.zero l).setKid i 0 .dead).un.kidT i 1).un=intss (l.getD i Dat.zero).mp:=by
 show (((((l.map Dat.d).set i (setc ((l.map Dat.d).getD i (Dat.d Dat.zero)) 0 .dead)).getD i (Dat.d Dat.zero)).cells).getD 1 .dead).un=_
 rw [getD_set_self' (by simpa using h),getD_map']
 rfl
theorem dat_kid0 {l:List Dat} {i:Nat} (h:i<l.length):(((lst Dat.d Dat.zero l).setKid i 1 .dead).un.kidT i 0).un=ints (l.getD i Dat.zero).sz:=by
 show (((((l.map Dat.d).set i (setc ((l.map Dat.d).getD i (Dat.d Dat.zero)) 1 .dead)).getD i (Dat.d Dat.zero)).cells).getD 0 .dead).un=_
 rw [getD_set_self' (by simpa using h),getD_map']
 rfl
def c_impl_ReadJournal:C := (.seq (.ops [] [⟨none,.asg 1 (.k (.nils (.int .i64 0)))⟩,⟨none,.asg 2 (.k (.nils (ints [])))⟩,⟨none,.asg 3 (.i 0)⟩,⟨none,.asg 4 (.i 0)⟩,⟨none,.asg 5 (.i 0)⟩] []) (.seq (.ops [] [⟨none,.mv (.v 0)⟩,⟨none,.call 28 [(.t 0)]⟩,⟨none,.mv (.t 1)⟩,⟨none,.ext 0 (.t 2)⟩,⟨none,.ext 1 (.t 2)⟩,⟨none,.asgP 6 (.t 3)⟩,⟨none,.asg 7 (.t 4)⟩] []) (.seq (.opc [] [⟨none,.mv (.v 7)⟩,⟨none,.bin .neq (.t 0) (.i 0)⟩] [] (.t 1) (.seq (.ops [] [⟨none,.mv (.v 7)⟩,⟨none,.asg 1 (.k (.nils (.int .i64 0)))⟩,⟨none,.asg 2 (.k (.nils (ints [])))⟩,⟨none,.asg 3 (.i 0)⟩,⟨none,.asg 4 (.i 0)⟩,⟨none,.asg 5 (.t 0)⟩] []) .ret) .skip) (.seq (.ops [8] [⟨none,.mv (.v 6)⟩,⟨none,.dyn (.k (.fn 29 [])) [(.t 0)]⟩,⟨none,.alc [.nils (.int .i64 0),.nils (ints [])]⟩,⟨none,.stR 2 (.t 2) (.t 1)⟩] [(8,2)]) (.seq (.ops [1,2,3] [⟨none,.fA 0 (.v 8)⟩,⟨none,.ld (.t 0)⟩,⟨none,.fA 1 (.v 8)⟩,⟨none,.ld (.t 2)⟩,⟨none,.mv (.v 6)⟩,⟨none,.nck (.t 4)⟩,⟨none,.fA 6 (.t 5)⟩,⟨none,.ld (.t 6)⟩,⟨none,.len (.t 7)⟩,⟨none,.mv (.v 6)⟩,⟨none,.nck (.t 9)⟩,⟨none,.fA 7 (.t 10)⟩,⟨none,.ld (.t 11)⟩,⟨none,.mv (.t 1)⟩,⟨none,.mv (.t 3)⟩,⟨none,.mv (.t 8)⟩,⟨none,.asg 4 (.t 12)⟩,⟨none,.asg 5 (.i 0)⟩] [(1,13),(2,14),(3,15)]) .ret)))))
def tr_impl_ReadJournal:List Nat:=[0,2,3,4,5,6,7,8,9]
def rs_impl_ReadJournal:List RS:=[.t 1,.t 2,.t 3,.t 4,.t 5]
theorem ok_impl_ReadJournal:fnOk Go.Proofs.Tryz.prog Go.Proofs.Tryz.f8 tr_impl_ReadJournal c_impl_ReadJournal 1 rs_impl_ReadJournal=true:=by decide +kernel
theorem ret_impl_ReadJournal (t:List UInt8) (ht:t.length≤1048576):Ret Go.Proofs.Tryz.prog 8 [.v (.str t)] (rdD (resJ t)):=by
 refine ret_fn Go.Proofs.Tryz.func8 ok_impl_ReadJournal rfl (show 1<500 by decide) rfl ?_;unfold c_impl_ReadJournal tr_impl_ReadJournal rs_impl_ReadJournal;simp only [go_sem,Nat.reduceLT,Nat.reduceAdd,Nat.reduceSub,↓reduceIte]
 refine call_of (ret_impl_historyCode t ht) rfl (.inl (nv_hc _)) ?_
 cases hr:resJ t with
 | none =>
  simp only [hcD]
  simp only [go_sem,Nat.reduceLT,Nat.reduceAdd,Nat.reduceSub,Nat.reduceEqDiff,↓reduceIte]
  exact ⟨fun _=>rfl,fun h=>absurd h (by decide)⟩
 | some p =>
  obtain ⟨hok,hH⟩:=resJ_ok hr
  have hdl:=hH.dl
  have h6:=hH.t6
  have hgl:=hH.gl
  have hnow:=ret_impl_history_now p.1 p.2.dt p.2.tx p.2.gd (by omega) (by omega)
  simp only [hcD]
  unfold hiC at hnow ⊢
  simp only [go_sem,Nat.reduceLT,Nat.reduceAdd,Nat.reduceSub,Nat.reduceEqDiff,Nat.reduceBEq,↓reduceIte]
  refine ⟨fun h=>absurd h (by decide),fun _=>?_⟩
  refine g_call [6] false hnow (by exact ⟨by decide,rfl⟩) (by repeat (first | exact trivial | refine ⟨rfl,?_⟩)) (by repeat (first | exact trivial | refine ⟨.inl rfl,?_⟩ | refine ⟨.inr ⟨rfl,rfl⟩,?_⟩)) (by repeat (first | exact trivial | refine ⟨(fun h=>by cases h),?_⟩)) (fun h=>by cases h) ?_
  simp only [go_sem,Nat.reduceLT,Nat.reduceAdd,Nat.reduceSub,Nat.reduceEqDiff,Nat.reduceBEq,Nat.reduceLeDiff,↓reduceIte]
  rw [dat_kid1 (by omega)]
  rfl
end Go.D3
namespace Go.D3
open Go
set_option maxRecDepth 100000
set_option maxHeartbeats 4000000
def atD (k:Int):Option (Sch×Hs)→D
 | some p=>if inR k 0 p.2.tx.length=true then .tup [ints (p.2.dt.getD k.toNat Dat.zero).sz,intss (p.2.dt.getD k.toNat Dat.zero).mp,.int .i64 0] else .tup [ints [],intss [],.int .i64 2]
 | none=>.tup [ints [],intss [],.int .i64 6]
theorem HOk.at' {s:Sch} {t:List UInt8} {H:Hs} (h:HOk s t H) {i:Nat} (hi:i<H.dt.length):DOk s (H.dt.getD i Dat.zero):=by
 rw [getD_lt hi]
 exact h.dok _ (List.getElem_mem _)
def c_spec_JournalAt:C := (.seq (.ops [] [⟨none,.asg 2 (.k (.nils (.int .i64 0)))⟩,⟨none,.asg 3 (.k (.nils (ints [])))⟩,⟨none,.asg 4 (.i 0)⟩] []) (.seq (.ops [5] [⟨none,.mv (.v 0)⟩,⟨none,.dyn (.k (.fn 24 [])) [(.t 0),(.i 1000000)]⟩,⟨none,.mv (.t 1)⟩,⟨none,.ext 0 (.t 2)⟩,⟨none,.ext 1 (.t 2)⟩,⟨none,.alc [.int .i64 0,.nils (.int .i64 0),.nils (.int .i64 0),.nils (.agg [.int .i64 0,ints []]),.nils (.agg [.int .i64 0,ints []]),.nils (.agg [ints [],intss []]),.nils (.slice (.agg [.int .i64 0,.int .i64 0,.int .i64 0,.int .i64 0]) []),.int .i64 0]⟩,⟨none,.stn 8 (.t 5) (.t 3)⟩,⟨none,.asg 6 (.t 4)⟩] [(5,5)]) (.seq (.opc [] [⟨none,.mv (.v 6)⟩,⟨none,.not (.t 0)⟩] [] (.t 1) (.seq (.ops [] [⟨none,.asg 2 (.k (.nils (.int .i64 0)))⟩,⟨none,.asg 3 (.k (.nils (ints [])))⟩,⟨none,.asg 4 (.i 6)⟩] []) .ret) .skip) (.seq (.opc [] [⟨none,.mv (.v 1)⟩,⟨none,.fA 6 (.v 5)⟩,⟨none,.ld (.t 1)⟩,⟨none,.len (.t 2)⟩,⟨none,.call 30 [(.t 0),(.i 0),(.t 3)]⟩,⟨none,.not (.t 4)⟩] [] (.t 5) (.seq (.ops [] [⟨none,.asg 2 (.k (.nils (.int .i64 0)))⟩,⟨none,.asg 3 (.k (.nils (ints [])))⟩,⟨none,.asg 4 (.i 2)⟩] []) .ret) .skip) (.seq (.ops [] [⟨none,.fA 5 (.v 5)⟩,⟨none,.ld (.t 0)⟩,⟨none,.mv (.v 1)⟩,⟨none,.idxA 2 (.t 1) (.t 2)⟩,⟨none,.fA 0 (.t 3)⟩,⟨none,.ld (.t 4)⟩,⟨none,.call 26 [(.t 5)]⟩,⟨none,.fA 5 (.v 5)⟩,⟨none,.ld (.t 7)⟩,⟨none,.mv (.v 1)⟩,⟨none,.idxA 2 (.t 8) (.t 9)⟩,⟨none,.fA 1 (.t 10)⟩,⟨none,.ld (.t 11)⟩,⟨none,.call 27 [(.t 12)]⟩,⟨none,.asg 2 (.t 6)⟩,⟨none,.asg 3 (.t 13)⟩,⟨none,.asg 4 (.i 0)⟩] []) .ret)))))
def tr_spec_JournalAt:List Nat:=[0,1,4,5,6,7,8]
def rs_spec_JournalAt:List RS:=[.t 2,.t 3,.t 4]
theorem ok_spec_JournalAt:fnOk Go.Proofs.Tryz.prog Go.Proofs.Tryz.f15 tr_spec_JournalAt c_spec_JournalAt 2 rs_spec_JournalAt=true:=by decide +kernel
theorem ret_spec_JournalAt (t:List UInt8) (k:Int) (ht:t.length≤1048576):Ret Go.Proofs.Tryz.prog 15 [.v (.str t),.v (.int .i64 k)] (atD k (resJ t)):=by
 refine ret_fn Go.Proofs.Tryz.func15 ok_spec_JournalAt rfl (show 2<500 by decide) rfl ?_;unfold c_spec_JournalAt tr_spec_JournalAt rs_spec_JournalAt;simp only [go_sem,Nat.reduceLT,Nat.reduceAdd,Nat.reduceSub,↓reduceIte]
 refine g_call [] false (ret_opnV t (by omega)) (by exact ⟨by decide,rfl⟩) (by repeat (first | exact trivial | refine ⟨rfl,?_⟩)) (by repeat (first | exact trivial | refine ⟨.inl rfl,?_⟩ | refine ⟨.inr ⟨rfl,rfl⟩,?_⟩)) (by repeat (first | exact trivial | refine ⟨(fun h=>by cases h),?_⟩)) (fun h=>by cases h) ?_
 cases hr:resJ t with
 | none =>
  simp only [opnV]
  simp only [go_sem,Nat.reduceLT,Nat.reduceAdd,Nat.reduceSub,Nat.reduceEqDiff,↓reduceIte]
  rfl
 | some p =>
  obtain ⟨hok,hH⟩:=resJ_ok hr
  have hs:=sok_of (ok_len hok).1
  have hdl:=hH.dl
  have h6:=hH.t6
  have hgl:=hH.gl
  simp only [opnV,Hs.pl]
  simp only [go_sem,Nat.reduceLT,Nat.reduceAdd,Nat.reduceSub,Nat.reduceEqDiff,↓reduceIte]
  refine call_of (ret_spec_l01In k 0 p.2.tx.length) rfl (.inl rfl) ?_
  cases hin:inR k 0 p.2.tx.length with
  | false =>
   simp only [go_sem,Nat.reduceLT,Nat.reduceAdd,Nat.reduceSub,Nat.reduceEqDiff,↓reduceIte]
   simp only [atD,hin]
   rfl
  | true =>
   have hk : 0≤k∧k≤p.2.tx.length:=by unfold inR at hin;simpa using hin
   have hki:k.toNat<p.2.dt.length:=by omega
   obtain ⟨m1,m2⟩:=(hH.at' hki).small hs
   simp only [go_sem,Nat.reduceLT,Nat.reduceAdd,Nat.reduceSub,Nat.reduceEqDiff,↓reduceIte]
   refine ⟨⟨hk.1,by omega⟩,?_⟩
   refine call_of (ret_spec_l01Own (p.2.dt.getD k.toNat Dat.zero).sz m1) rfl (.inl (nv_ints _)) ?_
   simp only [go_sem,Nat.reduceLT,Nat.reduceAdd,Nat.reduceSub,↓reduceIte]
   refine ⟨⟨hk.1,by omega⟩,call_of (ret_spec_l01Own2 (p.2.dt.getD k.toNat Dat.zero).mp m2) rfl (.inl (nv_intss _)) ?_⟩
   simp only [go_sem,Nat.reduceLT,Nat.reduceAdd,Nat.reduceSub,Nat.reduceEqDiff,Nat.reduceBEq,↓reduceIte]
   simp only [atD,hin]
   rfl
end Go.D3
namespace Go.D3
open Go
set_option maxRecDepth 100000
set_option maxHeartbeats 4000000
def c_impl_JournalAt:C := (.seq (.ops [] [⟨none,.asg 2 (.k (.nils (.int .i64 0)))⟩,⟨none,.asg 3 (.k (.nils (ints [])))⟩,⟨none,.asg 4 (.i 0)⟩] []) (.seq (.ops [] [⟨none,.mv (.v 0)⟩,⟨none,.call 28 [(.t 0)]⟩,⟨none,.mv (.t 1)⟩,⟨none,.ext 0 (.t 2)⟩,⟨none,.ext 1 (.t 2)⟩,⟨none,.asgP 5 (.t 3)⟩,⟨none,.asg 6 (.t 4)⟩] []) (.seq (.opc [] [⟨none,.mv (.v 6)⟩,⟨none,.bin .neq (.t 0) (.i 0)⟩] [] (.t 1) (.seq (.ops [] [⟨none,.mv (.v 6)⟩,⟨none,.asg 2 (.k (.nils (.int .i64 0)))⟩,⟨none,.asg 3 (.k (.nils (ints [])))⟩,⟨none,.asg 4 (.t 0)⟩] []) .ret) .skip) (.seq (.opc [] [⟨none,.mv (.v 1)⟩,⟨none,.mv (.v 5)⟩,⟨none,.nck (.t 1)⟩,⟨none,.fA 6 (.t 2)⟩,⟨none,.ld (.t 3)⟩,⟨none,.len (.t 4)⟩,⟨none,.call 31 [(.t 0),(.i 0),(.t 5)]⟩,⟨none,.not (.t 6)⟩] [] (.t 7) (.seq (.ops [] [⟨none,.asg 2 (.k (.nils (.int .i64 0)))⟩,⟨none,.asg 3 (.k (.nils (ints [])))⟩,⟨none,.asg 4 (.i 2)⟩] []) .ret) .skip) (.seq (.ops [2] [⟨none,.mv (.v 5)⟩,⟨none,.nck (.t 0)⟩,⟨none,.fA 5 (.t 1)⟩,⟨none,.ld (.t 2)⟩,⟨none,.mv (.v 1)⟩,⟨none,.idxA 2 (.t 3) (.t 4)⟩,⟨none,.fA 0 (.t 5)⟩,⟨none,.ld (.t 6)⟩,⟨none,.mv (.v 5)⟩,⟨none,.nck (.t 8)⟩,⟨none,.fA 5 (.t 9)⟩,⟨none,.ld (.t 10)⟩,⟨none,.mv (.v 1)⟩,⟨none,.idxA 2 (.t 11) (.t 12)⟩,⟨none,.fA 1 (.t 13)⟩,⟨none,.ld (.t 14)⟩,⟨none,.mv (.t 7)⟩,⟨none,.asg 3 (.t 15)⟩,⟨none,.asg 4 (.i 0)⟩] [(2,16)]) .ret)))))
def tr_impl_JournalAt:List Nat:=[0,1,4,5,6,7,8]
def rs_impl_JournalAt:List RS:=[.t 2,.t 3,.t 4]
theorem ok_impl_JournalAt:fnOk Go.Proofs.Tryz.prog Go.Proofs.Tryz.f16 tr_impl_JournalAt c_impl_JournalAt 2 rs_impl_JournalAt=true:=by decide +kernel
theorem ret_impl_JournalAt (t:List UInt8) (k:Int) (ht:t.length≤1048576):Ret Go.Proofs.Tryz.prog 16 [.v (.str t),.v (.int .i64 k)] (atD k (resJ t)):=by
 refine ret_fn Go.Proofs.Tryz.func16 ok_impl_JournalAt rfl (show 2<500 by decide) rfl ?_;unfold c_impl_JournalAt tr_impl_JournalAt rs_impl_JournalAt;simp only [go_sem,Nat.reduceLT,Nat.reduceAdd,Nat.reduceSub,↓reduceIte]
 refine call_of (ret_impl_historyCode t ht) rfl (.inl (nv_hc _)) ?_
 cases hr:resJ t with
 | none =>
  simp only [hcD]
  simp only [go_sem,Nat.reduceLT,Nat.reduceAdd,Nat.reduceSub,Nat.reduceEqDiff,↓reduceIte]
  exact ⟨fun _=>rfl,fun h=>absurd h (by decide)⟩
 | some p =>
  obtain ⟨hok,hH⟩:=resJ_ok hr
  have hdl:=hH.dl
  have h6:=hH.t6
  have hgl:=hH.gl
  simp only [hcD]
  unfold hiC
  simp only [go_sem,Nat.reduceLT,Nat.reduceAdd,Nat.reduceSub,Nat.reduceEqDiff,Nat.reduceBEq,↓reduceIte]
  refine ⟨fun h=>absurd h (by decide),fun _=>?_⟩
  refine call_of (ret_impl_inRange k 0 p.2.tx.length) rfl (.inl rfl) ?_
  cases hin:inR k 0 p.2.tx.length with
  | false =>
   simp only [go_sem,Nat.reduceLT,Nat.reduceAdd,Nat.reduceSub,Nat.reduceEqDiff,Nat.reduceBEq,Nat.reduceLeDiff,↓reduceIte]
   simp only [atD,hin]
   rfl
  | true =>
   have hk : 0≤k∧k≤p.2.tx.length:=by unfold inR at hin;simpa using hin
   have hki:k.toNat<p.2.dt.length:=by omega
   simp only [go_sem,Nat.reduceLT,Nat.reduceAdd,Nat.reduceSub,Nat.reduceEqDiff,Nat.reduceBEq,Nat.reduceLeDiff,↓reduceIte]
   refine ⟨⟨hk.1,by omega⟩,hki,⟨hk.1,by omega⟩,hki,?_⟩
   rw [dat_kid0 hki]
   simp only [atD,hin]
   rfl
end Go.D3
namespace Go.D3
open Go
theorem cost2_sum {a:List (List Int)}:cost2 a a.length≤costL List.length a:=by
 have:∀ i,i≤a.length→cost2 a i=((a.take i).map List.length).sum:=by
  intro i
  induction i with
  | zero=>intro _;simp [cost2]
  | succ i ih=>intro h;rw [cost2,ih (by omega),sum_take (cost:=List.length) (by omega) []]
 rw [this _ (Nat.le_refl _),List.take_length];unfold costL;omega
theorem ret_laws_FnExactJournalAt (t:List UInt8) (k:Int):Ret Go.Proofs.Tryz.prog 4 [.v (.str t),.v (.int .i64 k)] (.bool true):=law_at t k fun ht=>by
 have hsp:=ret_spec_JournalAt t k ht
 have him:=ret_impl_JournalAt t k ht
 cases hr:resJ t with
 | none =>
  rw [hr] at hsp him
  exact ⟨[],[],6,by decide,by decide,hsp,him⟩
 | some p =>
  rw [hr] at hsp him
  obtain ⟨hok,hH⟩:=resJ_ok hr
  cases hin:inR k 0 p.2.tx.length with
  | false =>
   simp only [atD,hin] at hsp him
   exact ⟨[],[],2,by decide,by decide,hsp,him⟩
  | true =>
   have hdl:=hH.dl
   have hk : 0≤k∧k≤p.2.tx.length:=by unfold inR at hin;simpa using hin
   obtain ⟨m1,m2⟩:=(hH.at' (i:=k.toNat) (by omega)).small (sok_of (ok_len hok).1)
   have:=cost2_sum (a:=(p.2.dt.getD k.toNat Dat.zero).mp)
   simp only [atD,hin] at hsp him
   exact ⟨(p.2.dt.getD k.toNat Dat.zero).sz,(p.2.dt.getD k.toNat Dat.zero).mp,0,m1,by omega,hsp,him⟩
end Go.D3
namespace Go.Proofs.YtgieggnpnepkfaaGreatDoor
open Go
namespace fnExactJournalAt
theorem own:ownKnob Go.Proofs.Tryz.prog.godebug=none:=by kernel_rfl
theorem laid:laidOutB Go.Proofs.Tryz.prog=true:=by kernel_rfl
theorem chk:(D3.Ty.cons .str (.cons (.int .i64) .nil)).chkAll Go.Proofs.Tryz.prog Go.Proofs.Tryz.f4.params.toList=true:=by kernel_rfl
theorem res:Go.Proofs.Tryz.f4.resultTypes=#[4]:=by kernel_rfl
theorem tb:Go.Proofs.Tryz.prog.underlying 4=some .bool:=by kernel_rfl
theorem np:Go.Proofs.Tryz.f4.params.size=2:=by kernel_rfl
set_option maxRecDepth 100000 in
theorem lifted (hR:∀ (t:List UInt8) (k:Int),D3.Ret Go.Proofs.Tryz.prog 4 [.v (.str t),.v (.int .i64 k)] (.bool true)) (os:Os) (started:os.Started) (H:Type) (enc:TypeId×Value→H) (F:Stop.Interp) :
  ReturnsInHanded {} Go.Proofs.Tryz.checked os 4 .any ((OpenSpec.ofChange Rows.fnExactJournalAtSpec).preRow enc Go.Proofs.Tryz.prog Go.Proofs.Tryz.f4 Rows.fnExactJournalAtRow.domain false Rows.fnExactJournalAtRow.laid) (((OpenSpec.ofChange Rows.fnExactJournalAtSpec).at F).post enc Go.Proofs.Tryz.prog Go.Proofs.Tryz.f4 false true false false):=by
 refine returnsInHanded_of_row (C:=Go.Proofs.Tryz.checked) (s:=OpenSpec.ofChange Rows.fnExactJournalAtSpec) own started (by kernel_rfl) Go.Proofs.Tryz.func4
  (ChangeSpec.witness_shaped (enc:=enc) (C:=Go.Proofs.Tryz.checked) (os:=os) (s:=Rows.fnExactJournalAtSpec) (conds:=Rows.fnExactJournalAtRow.domain) (X:=fun w _=>laidMetH Go.Proofs.Tryz.prog Rows.fnExactJournalAtRow.laid w) false (World.laidAll Go.Proofs.Tryz.prog os Rows.fnExactJournalAtRow.laid) #[.string ⟨#[]⟩,.int .i64 0] 8 (World.laidAll_os _ _ _)
    (World.shaped_of_ZipB (by kernel_rfl) (by kernel_rfl)) (by kernel_rfl) (by kernel_rfl) (by kernel_rfl)
    (by rw [MakeChecks.laidMetH_plain _ _ _ (by kernel_rfl)];exact laidMet_laidAll _ (by kernel_rfl) (by kernel_rfl))) ?_
 intro W base args ds gs before hval hW _ _ _ hL hS _
 obtain ⟨ms,hms⟩:=D3.errUnder
 obtain ⟨hG,x,hx,ix⟩:=D3.gok_of hL hS
 refine D3.law_contractV (ty:=.cons .str (.cons (.int .i64) .nil)) (s:=Rows.fnExactJournalAtSpec) rfl D3.errName D3.errType hms hx ix res tb laid chk (fun ds e hd=>?_) (fun y=>?_) hG hval hW
 ·rw [np] at hd
  match ds,hd with
  | [d,e],_=>rfl
 ·exact hR y.1 y.2.1
theorem said (hR:∀ (t:List UInt8) (k:Int),D3.Ret Go.Proofs.Tryz.prog 4 [.v (.str t),.v (.int .i64 k)] (.bool true)):Rows.FnExactJournalAtSaid :=
 OpenClaim.holds_of_cond 4 Go.Proofs.Tryz.f4 rfl rfl rfl rfl rfl rfl rfl ⟨rfl,rfl,rfl,rfl,rfl⟩ rfl rfl rfl rfl rfl (by kernel_rfl) Go.Proofs.Tryz.func4 (by kernel_rfl)
  (of_decide_eq_true (by kernel_rfl)) (by unfold Func.isWrapper;first | (rw [if_pos (by decide +kernel)];kernel_rfl) | (rw [if_neg (by decide +kernel)];exact ⟨rfl,rfl⟩))
  (fun os started H enc _ F=>by rw [OpenClaim.pre_eq_preRow];exact lifted hR os started H enc F)
theorem plain (f:FuncId) (fn:Func) (hf:Tryz.pinned.checked.prog.funcNamed Rows.fnExactJournalAtRow.func=some f) (hfn:Tryz.pinned.checked.prog.funcs[f]?=some fn) :
  true=Tryz.pinned.checked.prog.looks []∧∀ (j:Nat) t,fn.params[j]?=some t→Tryz.pinned.checked.prog.wantsStandIn t=false:=by
 obtain rfl:f=4:=Option.some.inj ((show Go.Proofs.Tryz.prog.funcNamed Rows.fnExactJournalAtRow.func=some 4 by kernel_rfl).symm.trans hf) |>.symm
 obtain rfl:fn=Go.Proofs.Tryz.f4:=(Option.some.inj (Go.Proofs.Tryz.func4.symm.trans hfn)).symm
 refine ⟨by kernel_rfl,fun j t ht=>?_⟩
 have hm:t∈Go.Proofs.Tryz.f4.params:=Array.mem_of_getElem? ht
 have hall:(Go.Proofs.Tryz.f4.params.toList.all fun u=>!Go.Proofs.Tryz.prog.wantsStandIn u)=true:=by kernel_rfl
 exact (show Go.Proofs.Tryz.prog.wantsStandIn t=false by simpa using List.all_eq_true.1 hall t (by simpa using hm))
theorem card (hR:∀ (t:List UInt8) (k:Int),D3.Ret Go.Proofs.Tryz.prog 4 [.v (.str t),.v (.int .i64 k)] (.bool true)):Rows.FnExactJournalAtCardSaid :=
 Claim7.holds_tied_plain_at .later [] _ _ _ _ (said hR) (fun _ h=>by cases h) (by kernel_rfl) (fun _ h=>by cases h) fnExactJournalAt_row_tie rfl ⟨rfl,rfl⟩ (by kernel_rfl) rfl plain (by kernel_rfl)
end fnExactJournalAt
end Go.Proofs.YtgieggnpnepkfaaGreatDoor
namespace Go.Proofs.YtgieggnpnepkfaaGreatDoor
open Go
theorem fnExactJournalAt_proved:Rows.FnExactJournalAtCardSaid:=fnExactJournalAt.card D3.ret_laws_FnExactJournalAt
#print axioms fnExactJournalAt_proved
end Go.Proofs.YtgieggnpnepkfaaGreatDoor
