/- WHAT THE ROWS OF THE JOURNALS LIST,as contracts take it;and from a law's contract to the row,for a law that names one variable of an interface type. -/
import Derived.Test.YtgieggnpnepkfaaGreatDoorGF
import Derived.Test.YtgieggnpnepkfaaGreatDoorClaim
import Derived.Test.YtgieggnpnepkfaaGreatDoorRows
import Derived.Test.YtgieggnpnepkfaaGreatDoorGA
import Derived.Stop.LaidErr
import Derived.Lib.LaidTab
import Derived.Lib.ItoaNum
import Derived.Shelf.Vars
import Derived.LaidMore
import Derived.OpenShut
import Derived.MakeChecks
namespace Go.D3
open Go
set_option maxRecDepth 100000
set_option maxHeartbeats 4000000
theorem datW_app {M:List (Option Dat)} {a:List Int} {b:List (List Int)}:(lst datW none M).appL [.agg [.vw (lst (.int .i64) 0 a),.vw (lst (lst (.int .i64) 0) [] b)]]=lst datW none (M++[some ⟨a,b⟩]):=lst_app1 (f:=datW) (x:=some ⟨a,b⟩)
theorem datW_snoc {L:List Dat} {d:Dat}:L.map some++[some d]=(L++[d]).map some:=by rw [List.map_append];rfl
theorem datW_cells {d:Dat}:(datW (some d)).cells=[.vw (ints d.sz),.vw (intss d.mp)]:=rfl
theorem some_get {α:Type} {L:List α} {i:Nat} {z:α} (h:i<L.length):(L.map some).getD i none=some (L.getD i z):=by
 rw [List.getD_eq_getElem?_getD,List.getElem?_map,List.getElem?_eq_getElem h,getD_lt h];rfl
theorem vwl_expo {α:Type} {f:α→D} {d:α} {l:List α} {k:Nat} {p:Path}:expo k p (.vw (lst f d l))=lst f d l:=rfl
attribute [go_sem] datW_app datW_snoc datW_cells vwl_expo
def Hs.d (s:Sch) (H:Hs):D:=.agg [.int .i64 s.nd,.vw (ints s.fr),.vw (ints s.to),.vw (lst Pth.d Pth.zero s.lf),.vw (lst Pth.d Pth.zero s.rt),lst datW none (H.dt.map some),lst (lst Chg.d Chg.zero) [] H.tx,.int .i64 H.gd]
def opnD:Option (Sch×Hs)→D
 | some p=>.tup [Hs.d p.1 p.2,.bool true]
 | none=>.tup [.agg [.int .i64 0,ints [],ints [],lst Pth.d Pth.zero [],lst Pth.d Pth.zero [],lst datW none [],lst (lst Chg.d Chg.zero) [] [],.int .i64 0],.bool false]
def HdV (t:List UInt8) (rc:D) (gs:List D):Prop:=gs=[]∧∃ l,rc=.tup l∧∃ (s:Sch) (n:Int) (b:Bool),l=[Sch.d s,.int .i64 n,.bool b]∧b=(headF t).isSome∧∀ p,headF t=some p→s=p.1∧n=p.2
theorem ret_headV (t:List UInt8) (ht:t.length≤4294966000):RetE Go.Proofs.Tryz.prog 41 [.str t] [] (HdV t) :=
 ((ret_spec_l39Header t ht).imp fun _ _ ⟨h1,s,n,b,h2,h3⟩=>⟨h1,_,h2,s,n,b,rfl,h3⟩).view
def bxO (s:Sch) (H:Hs):D:=.box [.int .i64 s.nd,ints s.fr,ints s.to,lst Pth.d Pth.zero s.lf,lst Pth.d Pth.zero s.rt,.o (lst datW none (H.dt.map some)),.o (lst (lst Chg.d Chg.zero) [] H.tx),.int .i64 H.gd]
structure OI (s:Sch) (t:List UInt8) (R:Hs) (cs:List Chg) (a i:Nat) (H:Hs):Prop where
 ai:a≤i
 it:i≤t.length
 no:∀ j,a≤j→j<i→t.getD j 0≠10
 ok:HOk s t H
 ga:H.gd≤a
 c40:cs.length≤40
 run:runJ s t a cs H=R
def c_spec_l39Open:C := (.seq (.ops [2] [⟨none,.alc [.int .i64 0,.nils (.int .i64 0),.nils (.int .i64 0),.nils (.agg [.int .i64 0,ints []]),.nils (.agg [.int .i64 0,ints []]),.nils (.agg [ints [],intss []]),.nils (.slice (.agg [.int .i64 0,.int .i64 0,.int .i64 0,.int .i64 0]) []),.int .i64 0]⟩,⟨none,.asg 3 (.k (.bool false))⟩] [(2,0)]) (.seq (.ops [4] [⟨none,.mv (.v 0)⟩,⟨none,.dyn (.k (.fn 41 [])) [(.t 0)]⟩,⟨none,.mv (.t 1)⟩,⟨none,.ext 0 (.t 2)⟩,⟨none,.ext 1 (.t 2)⟩,⟨none,.ext 2 (.t 2)⟩,⟨none,.alc [.int .i64 0,.nils (.int .i64 0),.nils (.int .i64 0),.nils (.agg [.int .i64 0,ints []]),.nils (.agg [.int .i64 0,ints []])]⟩,⟨none,.stn 5 (.t 6) (.t 3)⟩,⟨none,.asg 5 (.t 4)⟩,⟨none,.asg 6 (.t 5)⟩] [(4,6)]) (.seq (.opc [] [⟨none,.mv (.v 6)⟩,⟨none,.not (.t 0)⟩] [] (.t 1) (.seq (.ops [] [⟨none,.bld [.int .i64 0,.nils (.int .i64 0),.nils (.int .i64 0),.nils (.agg [.int .i64 0,ints []]),.nils (.agg [.int .i64 0,ints []]),.nils (.agg [ints [],intss []]),.nils (.slice (.agg [.int .i64 0,.int .i64 0,.int .i64 0,.int .i64 0]) []),.int .i64 0] []⟩,⟨none,.stn 8 (.v 2) (.t 0)⟩,⟨none,.asg 3 (.k (.bool false))⟩] []) .ret) .skip) (.seq (.ops [7] [⟨none,.lda 5 (.v 4)⟩,⟨none,.lda 5 (.v 4)⟩,⟨none,.call 42 [(.t 1)]⟩,⟨none,.bldS (.agg [ints [],intss []]) 1 [(0,(.t 2))]⟩,⟨none,.mv (.v 5)⟩,⟨none,.bld [.int .i64 0,.nils (.int .i64 0),.nils (.int .i64 0),.nils (.agg [.int .i64 0,ints []]),.nils (.agg [.int .i64 0,ints []]),.nils (.agg [ints [],intss []]),.nils (.slice (.agg [.int .i64 0,.int .i64 0,.int .i64 0,.int .i64 0]) []),.int .i64 0] [(0,5,(.t 0)),(5,1,(.t 3)),(7,1,(.t 4))]⟩,⟨none,.alc [.int .i64 0,.nils (.int .i64 0),.nils (.int .i64 0),.nils (.agg [.int .i64 0,ints []]),.nils (.agg [.int .i64 0,ints []]),.nils (.agg [ints [],intss []]),.nils (.slice (.agg [.int .i64 0,.int .i64 0,.int .i64 0,.int .i64 0]) []),.int .i64 0]⟩,⟨none,.stn 8 (.t 6) (.t 5)⟩] [(7,6)]) (.seq (.ops [] [⟨none,.bldS (.agg [.int .i64 0,.int .i64 0,.int .i64 0,.int .i64 0]) 0 []⟩,⟨none,.asg 8 (.t 0)⟩] []) (.seq (.ops [] [⟨none,.mv (.v 5)⟩,⟨none,.asg 9 (.t 0)⟩] []) (.seq (.seq (.ops [] [⟨none,.mv (.v 5)⟩,⟨none,.asg 10 (.t 0)⟩] []) (.block 0 (.loop (.seq (.opc [] [⟨none,.mv (.v 10)⟩,⟨none,.mv (.v 0)⟩,⟨none,.lenS (.t 1)⟩,⟨none,.bin .lss (.t 0) (.t 2)⟩,⟨none,.mv (.t 3)⟩,⟨some (4,true),.fA 6 (.v 7)⟩,⟨some (4,true),.ld (.t 5)⟩,⟨some (4,true),.len (.t 6)⟩,⟨some (4,true),.mv (.v 1)⟩,⟨some (4,true),.bin .lss (.t 7) (.t 8)⟩,⟨none,.pick (.t 4) (.t 9) (.k (.bool false))⟩] [] (.t 10) .skip (.exit 0)) (.seq (.block 1 (.seq (.opc [] [⟨none,.mv (.v 0)⟩,⟨none,.mv (.v 10)⟩,⟨none,.idxS (.t 0) (.t 1)⟩,⟨none,.bin .neq (.t 2) (.k (.int .u8 10))⟩] [] (.t 3) (.exit 1) .skip) (.seq (.ops [] [⟨none,.mv (.v 0)⟩,⟨none,.mv (.v 9)⟩,⟨none,.mv (.v 10)⟩,⟨none,.slS (.t 0) (some (.t 1)) (some (.t 2))⟩,⟨none,.asg 11 (.t 3)⟩] []) (.seq (.opc [] [⟨none,.mv (.v 11)⟩,⟨none,.mv (.v 0)⟩,⟨none,.mv (.v 9)⟩,⟨none,.slS (.t 1) none (some (.t 2))⟩,⟨none,.call 44 [(.t 3)]⟩,⟨none,.call 43 [(.t 4)]⟩,⟨none,.bin .add (.k (.str [101,110,100,32])) (.t 5)⟩,⟨none,.bin .eql (.t 0) (.t 6)⟩] [] (.t 7) (.seq (.alt [12] (.two 10 14 [0,1,2,3,4,5,6,7,8,9,14,10,11,12,13,15,16] (.two 13 15 [0,1,2,3,4,5,6,7,8,9,10,11,12,14,15,13,16] (.leaf [⟨none,.lda 5 (.v 4)⟩,⟨none,.fA 5 (.v 7)⟩,⟨none,.ld (.t 1)⟩,⟨none,.fA 5 (.v 7)⟩,⟨none,.ld (.t 3)⟩,⟨none,.len (.t 4)⟩,⟨none,.bin .sub (.t 5) (.i 1)⟩,⟨none,.idxA 2 (.t 2) (.t 6)⟩,⟨none,.lda 2 (.t 7)⟩,⟨none,.mv (.v 8)⟩,⟨none,.dyn (.k (.fn 37 [])) [(.t 0),(.t 8),(.t 9)]⟩,⟨none,.mv (.t 10)⟩,⟨none,.ext 0 (.t 11)⟩,⟨none,.ext 1 (.t 11)⟩,⟨none,.alc [.nils (.int .i64 0),.nils (ints [])]⟩,⟨none,.stn 2 (.t 14) (.t 12)⟩,⟨none,.asg 13 (.t 13)⟩] [(12,14)]) (.leaf [⟨none,.lda 5 (.v 4)⟩,⟨none,.fA 5 (.v 7)⟩,⟨none,.ld (.t 1)⟩,⟨none,.fA 5 (.v 7)⟩,⟨none,.ld (.t 3)⟩,⟨none,.len (.t 4)⟩,⟨none,.bin .sub (.t 5) (.i 1)⟩,⟨none,.idxA 2 (.t 2) (.t 6)⟩,⟨none,.lda 2 (.t 7)⟩,⟨none,.mv (.v 8)⟩,⟨none,.dyn (.k (.fn 37 [])) [(.t 0),(.t 8),(.t 9)]⟩,⟨none,.mv (.t 10)⟩,⟨none,.ext 0 (.t 11)⟩,⟨none,.alc [.nils (.int .i64 0),.nils (ints [])]⟩,⟨none,.stn 2 (.t 13) (.t 12)⟩,⟨none,.ext 1 (.t 11)⟩,⟨none,.asg 13 (.t 15)⟩] [(12,13)])) (.two 14 15 [0,1,2,3,4,5,6,7,8,9,10,11,12,13,15,14,16] (.leaf [⟨none,.lda 5 (.v 4)⟩,⟨none,.fA 5 (.v 7)⟩,⟨none,.ld (.t 1)⟩,⟨none,.fA 5 (.v 7)⟩,⟨none,.ld (.t 3)⟩,⟨none,.len (.t 4)⟩,⟨none,.bin .sub (.t 5) (.i 1)⟩,⟨none,.idxA 2 (.t 2) (.t 6)⟩,⟨none,.lda 2 (.t 7)⟩,⟨none,.mv (.v 8)⟩,⟨none,.alc [.nils (.int .i64 0),.nils (ints [])]⟩,⟨none,.dyn (.k (.fn 37 [])) [(.t 0),(.t 8),(.t 9)]⟩,⟨none,.mv (.t 11)⟩,⟨none,.ext 0 (.t 12)⟩,⟨none,.ext 1 (.t 12)⟩,⟨none,.stn 2 (.t 10) (.t 13)⟩,⟨none,.asg 13 (.t 14)⟩] [(12,10)]) (.leaf [⟨none,.lda 5 (.v 4)⟩,⟨none,.fA 5 (.v 7)⟩,⟨none,.ld (.t 1)⟩,⟨none,.fA 5 (.v 7)⟩,⟨none,.ld (.t 3)⟩,⟨none,.len (.t 4)⟩,⟨none,.bin .sub (.t 5) (.i 1)⟩,⟨none,.idxA 2 (.t 2) (.t 6)⟩,⟨none,.lda 2 (.t 7)⟩,⟨none,.mv (.v 8)⟩,⟨none,.alc [.nils (.int .i64 0),.nils (ints [])]⟩,⟨none,.dyn (.k (.fn 37 [])) [(.t 0),(.t 8),(.t 9)]⟩,⟨none,.mv (.t 11)⟩,⟨none,.ext 0 (.t 12)⟩,⟨none,.stn 2 (.t 10) (.t 13)⟩,⟨none,.ext 1 (.t 12)⟩,⟨none,.asg 13 (.t 15)⟩] [(12,10)])))) (.seq (.opc [] [⟨none,.mv (.v 13)⟩,⟨none,.not (.t 0)⟩] [] (.t 1) (.seq (.ops [] [⟨none,.lda 8 (.v 7)⟩,⟨none,.stn 8 (.v 2) (.t 0)⟩,⟨none,.asg 3 (.k (.bool true))⟩] []) .ret) .skip) (.seq (.ops [] [⟨none,.fA 5 (.v 7)⟩,⟨none,.ld (.t 0)⟩,⟨none,.lda 2 (.v 12)⟩,⟨none,.bldS (.agg [ints [],intss []]) 1 [(0,(.t 2))]⟩,⟨none,.app 2 48 (.t 1) (.t 3)⟩,⟨none,.fA 5 (.v 7)⟩,⟨none,.st (.t 5) (.t 4)⟩] []) (.seq (.ops [] [⟨none,.fA 6 (.v 7)⟩,⟨none,.ld (.t 0)⟩,⟨none,.mv (.v 8)⟩,⟨none,.bldS (.slice (.agg [.int .i64 0,.int .i64 0,.int .i64 0,.int .i64 0]) []) 1 [(0,(.t 2))]⟩,⟨none,.app 1 24 (.t 1) (.t 3)⟩,⟨none,.fA 6 (.v 7)⟩,⟨none,.st (.t 5) (.t 4)⟩] []) (.seq (.ops [] [⟨none,.mv (.v 10)⟩,⟨none,.bin .add (.t 0) (.i 1)⟩,⟨none,.fA 7 (.v 7)⟩,⟨none,.st (.t 2) (.t 1)⟩] []) (.ops [] [⟨none,.bldS (.agg [.int .i64 0,.int .i64 0,.int .i64 0,.int .i64 0]) 0 []⟩,⟨none,.asg 8 (.t 0)⟩] [])))))) (.seq (.ops [14] [⟨none,.mv (.v 11)⟩,⟨none,.call 45 [(.t 0)]⟩,⟨none,.mv (.t 1)⟩,⟨none,.ext 0 (.t 2)⟩,⟨none,.ext 1 (.t 2)⟩,⟨none,.alc [.int .i64 0,.int .i64 0,.int .i64 0,.int .i64 0]⟩,⟨none,.stn 4 (.t 5) (.t 3)⟩,⟨none,.asg 15 (.t 4)⟩] [(14,5)]) (.seq (.opc [] [⟨none,.mv (.v 15)⟩,⟨none,.not (.t 0)⟩,⟨none,.mv (.t 1)⟩,⟨some (2,false),.mv (.v 8)⟩,⟨some (2,false),.len (.t 3)⟩,⟨some (2,false),.bin .geq (.t 4) (.i 40)⟩,⟨none,.pick (.t 2) (.k (.bool true)) (.t 5)⟩] [] (.t 6) (.seq (.ops [] [⟨none,.lda 8 (.v 7)⟩,⟨none,.stn 8 (.v 2) (.t 0)⟩,⟨none,.asg 3 (.k (.bool true))⟩] []) .ret) .skip) (.ops [] [⟨none,.mv (.v 8)⟩,⟨none,.lda 4 (.v 14)⟩,⟨none,.bldS (.agg [.int .i64 0,.int .i64 0,.int .i64 0,.int .i64 0]) 1 [(0,(.t 1))]⟩,⟨none,.app 4 32 (.t 0) (.t 2)⟩,⟨none,.asg 8 (.t 3)⟩] [])))) (.ops [] [⟨none,.mv (.v 10)⟩,⟨none,.bin .add (.t 0) (.i 1)⟩,⟨none,.asg 9 (.t 1)⟩] []))))) (.ops [] [⟨none,.mv (.v 10)⟩,⟨none,.bin .add (.t 0) (.i 1)⟩,⟨none,.asg 10 (.t 1)⟩] [])))))) (.seq (.ops [] [⟨none,.lda 8 (.v 7)⟩,⟨none,.stn 8 (.v 2) (.t 0)⟩,⟨none,.asg 3 (.k (.bool true))⟩] []) .ret))))))))
def tr_spec_l39Open:List Nat:=[0,1,4,5,6,7,8,9,10,11,12,13,14,15,16,17]
def rs_spec_l39Open:List RS:=[.c 2 8 true,.t 3]
theorem ok_spec_l39Open:fnOk Go.Proofs.Tryz.prog Go.Proofs.Tryz.f24 tr_spec_l39Open c_spec_l39Open 2 rs_spec_l39Open=true:=by decide +kernel
theorem ret_spec_l39Open (t:List UInt8) (ht:t.length≤5000000):Ret Go.Proofs.Tryz.prog 24 [.v (.str t),.v (.int .i64 1000000)] (opnD (resJ t)):=by
 refine ret_fn Go.Proofs.Tryz.func24 ok_spec_l39Open rfl (show 2<500 by decide) rfl ?_;unfold c_spec_l39Open tr_spec_l39Open rs_spec_l39Open;simp only [go_sem,Nat.reduceLT,Nat.reduceAdd,Nat.reduceSub,↓reduceIte]
 refine e_call [] false (ret_headV t (by omega)) (by exact ⟨by decide,rfl⟩) (by repeat (first | exact trivial | refine ⟨rfl,?_⟩)) (by repeat (first | exact trivial | refine ⟨.inl rfl,?_⟩ | refine ⟨.inr ⟨rfl,rfl⟩,?_⟩)) ?_
 rintro _ _ ⟨rfl,_,rfl,s,n,b,rfl,hb,hp⟩
 refine ⟨(by repeat (first | exact trivial | refine ⟨(fun h=>by cases h),?_⟩)),(fun h=>by cases h),?_⟩
 unfold resJ
 cases hh:headF t with
 | none =>
  rw [hh] at hb
  replace hb:b=false:=hb
  subst hb
  simp only [go_sem,Nat.reduceLT,Nat.reduceAdd,Nat.reduceSub,Nat.reduceEqDiff,↓reduceIte]
  rfl
 | some p =>
  rw [hh] at hb
  replace hb:b=true:=hb
  subst hb
  obtain ⟨rfl,rfl⟩:=hp p hh
  obtain ⟨hok,hpl⟩:=head_ok hh
  have hs:=sok_of (ok_len hok).1
  have h0:=hs.n0
  have h8:=hs.n8
  have hf8:=hs.f8
  simp only [go_sem,Nat.reduceLT,Nat.reduceAdd,Nat.reduceSub,Nat.reduceEqDiff,↓reduceIte]
  refine callv_of (ret_spec_l39Empty p.1 h0 h8 hf8) rfl (.inl (nv_Dat _)) ?_
  simp only [go_sem,Nat.reduceLT,Nat.reduceAdd,Nat.reduceSub,Nat.reduceEqDiff,Nat.reduceBEq,Nat.reduceLeDiff,↓reduceIte]
  rw [Option.map_some]
  refine loop_set [11,12,13,14,15] (fun (q:List Chg×Nat×Nat×Hs)=>[(7,bxO p.1 q.2.2.2),(8,.o (lst Chg.d Chg.zero q.1)),(9,.int .i64 q.2.1),(10,.int .i64 q.2.2.1)]) (fun q=>OI p.1 t (runJ p.1 t p.2 [] ⟨[noD p.1],[],p.2⟩) q.1 q.2.1 q.2.2.1 q.2.2.2) (fun q=>t.length-q.2.2.1) ([],p.2,p.2,⟨[noD p.1],[],p.2⟩) (by simp only [go_sem,Nat.reduceLT,↓reduceIte];rfl) ⟨Nat.le_refl _,hpl,(fun j h1 h2=>absurd (Nat.lt_of_le_of_lt h1 h2) (Nat.lt_irrefl _)),hs0_ok hs hpl,Nat.le_refl _,Nat.zero_le _,rfl⟩ rfl ?_
  rintro ⟨cs,a,i,H⟩ ⟨hai,hit,hno,hok2,hga,hc40,hrun⟩
  simp only at hai hit hno hok2 hga hc40 hrun
  unfold bxO
  generalize runJ p.1 t p.2 [] ⟨[noD p.1],[],p.2⟩=X at hrun
  have h6:=hok2.t6
  have hgl:=hok2.gl
  have hdl:=hok2.dl
  have stop:lineAt t a=none→X=H:=fun hl=>by rw [← hrun,runJ_eq,hl]
  simp only [go_sem,Nat.reduceLT,Nat.reduceAdd,Nat.reduceSub,Nat.reduceEqDiff,Nat.reduceLeDiff,↓reduceIte]
  refine ⟨fun h=>?_,fun h=>?_⟩
  ·simp only [Bool.and_eq_true,decide_eq_true_eq] at h
   obtain ⟨hi,-⟩:=h
   refine ⟨hi,fun h1=>⟨(cs,a,i+1,H),⟨by show a≤i+1;omega,hi,fun j j1 j2=>?_,hok2,hga,hc40,hrun⟩,by show t.length-(i+1)<t.length-i;omega,by rw [wrap_small (by omega) (by omega)];rfl⟩,fun h1=>⟨⟨hai,hit⟩,⟨Nat.zero_le _,by omega⟩,?_⟩⟩
   ·by_cases hji:j<i
    ·exact hno j j1 hji
    ·rw [show j=i by simp only at j2;omega]
     intro hc
     rw [hc] at h1
     cases h1
   ·have hc:t.getD i 0=10:=by
     have hb:=(t.getD i 0).toNat_lt
     simp only [bne_eq_false_iff_eq] at h1
     exact UInt8.toNat_inj.1 (by show _=10;omega)
    have hl:=line_some hai hi hc hno
    have hll:((t.take i).drop a).length=i-a:=by rw [List.length_drop,List.length_take];omega
    refine call_of (ret_spec_l39Check (t.take a)) rfl (.inl rfl) ?_
    have hck:=chk7 (t:=t.take a)
    simp only [go_sem,Nat.reduceLT,Nat.reduceAdd,Nat.reduceSub,↓reduceIte]
    refine call_of (ret_dec hck.1 (by omega)) rfl (.inl rfl) ?_
    have hit2:=itoa_len hck.1 (by omega)
    simp only [go_sem,Nat.reduceLT,Nat.reduceAdd,Nat.reduceSub,↓reduceIte]
    rw [show 101::110::100::32::Lib.itoa (chkF 7 (t.take a))=endF (t.take a) from rfl]
    have hw1:IntKind.i64.wrap (((H.tx.length+1:Nat):Int)-1)=(H.tx.length:Int):=by rw [wrap_small (by omega) (by omega)];omega
    have hw2:(H.dt.map some).length=H.tx.length+1:=by rw [List.length_map,hdl]
    have hgt:(H.dt.map some).getD H.tx.length none=some H.last:=by
     rw [some_get (z:=Dat.zero) (by omega)]
     unfold Hs.last
     rw [hdl,Nat.add_sub_cancel]
    simp only [hw2]
    simp only [hw1,Int.toNat_natCast,hgt,datW_cells]
    simp only [go_sem,Nat.reduceAdd]
    refine ⟨by simp only [maxLen];omega,fun he=>?_,fun he=>?_⟩
    ·have hall:=ret_spec_l39All p.1 H.last cs hok hok2.last (by omega)
     have hX:X=match goodO p.1 H.last cs with
       | some d=>runJ p.1 t (i+1) [] (H.push d cs (i+1))
       | none=>H:=by
      rw [← hrun,runJ_eq,hl]
      simp only [if_pos he,hll]
      rw [show a+(i-a)+1=i+1 by omega]
      cases goodO p.1 H.last cs<;>rfl
     have hlt1:H.tx.length<H.tx.length+1:=Nat.lt_succ_self _
     have hcs:(H.tx.length<H.tx.length+1∧0<(datW none).cells.length)∧H.tx.length<H.tx.length+1∧1<(datW none).cells.length:=⟨⟨hlt1,by decide⟩,hlt1,by decide⟩
     refine ⟨⟨⟨hlt1,hcs,?_⟩,hlt1,hcs,?_⟩,⟨hlt1,hcs,?_⟩,hlt1,hcs,?_⟩
     all_goals (
      refine g_call [8] false hall (by exact ⟨by decide,rfl⟩) (by repeat (first | exact trivial | refine ⟨rfl,?_⟩)) (by repeat (first | exact trivial | refine ⟨.inl rfl,?_⟩ | refine ⟨.inr ⟨rfl,rfl⟩,?_⟩)) (by repeat (first | exact trivial | refine ⟨(fun h=>by cases h),?_⟩)) (fun h=>by cases h) ?_
      unfold goodO at hX
      cases hd:Dat.all p.1 H.last cs with
      | none =>
       rw [hd] at hX
       replace hX:X=H:=hX
       simp only [allE,datW]
       simp only [go_sem,Nat.reduceLT,Nat.reduceAdd,Nat.reduceSub,Nat.reduceEqDiff,Nat.reduceBEq,Nat.reduceLeDiff,↓reduceIte]
       rw [hX]
       rfl
      | some e =>
       rw [hd,Option.bind_some] at hX
       simp only [allE]
       cases hgb:(decide (cs.length≤40)&&e.wholeB p.1) with
       | false =>
        rw [hgb,if_neg (by decide)] at hX
        replace hX:X=H:=hX
        simp only [go_sem,Nat.reduceLT,Nat.reduceAdd,Nat.reduceSub,Nat.reduceEqDiff,Nat.reduceBEq,↓reduceIte,datW]
        rw [hX]
        rfl
       | true =>
        rw [hgb,if_pos rfl] at hX
        replace hX:X=runJ p.1 t (i+1) [] (H.push e cs (i+1)):=hX
        have h5:=endF_5 (x:=t.take a)
        rw [← he,hll] at h5
        have hpu:HOk p.1 t (H.push e cs (i+1)):=hok2.push hs (by unfold goodO;rw [hd,Option.bind_some,hgb,if_pos rfl]) (by omega) hi
        simp only [go_sem,Nat.reduceLT,Nat.reduceAdd,Nat.reduceSub,Nat.reduceEqDiff,Nat.reduceBEq,↓reduceIte,datW]
        exact ⟨by rw [hw2];omega,by omega,([],i+1,i+1,H.push e cs (i+1)),⟨Nat.le_refl _,hi,fun j j1 j2=>absurd (Nat.lt_of_le_of_lt j1 j2) (Nat.lt_irrefl _),hpu,Nat.le_refl _,Nat.zero_le _,hX.symm⟩,by show t.length-(i+1)<t.length-i;omega,by rw [wrap_small (by omega) (by omega)];rfl⟩)
    ·have hX:X=match chgO ((t.take i).drop a) with
       | some c=>if cs.length=40 then H else runJ p.1 t (i+1) (cs++[c]) H
       | none=>H:=by
      rw [← hrun,runJ_eq,hl]
      simp only [if_neg (beq_eq_false_iff_ne.1 he),hll]
      rw [show a+(i-a)+1=i+1 by omega]
      cases chgO ((t.take i).drop a)<;>rfl
     refine call_of (ret_spec_l39Read ((t.take i).drop a) (by omega)) rfl (.inl (chgD_nv _)) ?_
     cases hcg:chgO ((t.take i).drop a) with
     | none =>
      rw [hcg] at hX
      replace hX:X=H:=hX
      simp only [chgD]
      simp only [go_sem,Nat.reduceLT,Nat.reduceAdd,Nat.reduceSub,Nat.reduceEqDiff,Nat.reduceBEq,Nat.reduceLeDiff,↓reduceIte]
      rw [hX]
      rfl
     | some c =>
      rw [hcg] at hX
      simp only [chgD]
      simp only [go_sem,Nat.reduceLT,Nat.reduceAdd,Nat.reduceSub,Nat.reduceEqDiff,Nat.reduceBEq,Nat.reduceLeDiff,↓reduceIte]
      refine ⟨fun h4=>?_,fun h4=>?_⟩
      ·try simp only [ge_iff_le,decide_eq_true_eq] at h4
       replace hX:X=H:=by rw [hX];exact if_pos (by omega)
       rw [hX]
       rfl
      ·try simp only [ge_iff_le,decide_eq_false_iff_not] at h4
       replace hX:X=runJ p.1 t (i+1) (cs++[c]) H:=by rw [hX];exact if_neg (by omega)
       exact ⟨by omega,(cs++[c],i+1,i+1,H),⟨Nat.le_refl _,hi,fun j j1 j2=>absurd (Nat.lt_of_le_of_lt j1 j2) (Nat.lt_irrefl _),hok2,by show H.gd≤i+1;omega,by show (cs++[c]).length≤40;rw [List.length_append];simp only [List.length_cons,List.length_nil];omega,hX.symm⟩,by show t.length-(i+1)<t.length-i;omega,by rw [wrap_small (by omega) (by omega)];rfl⟩
  ·have hn:i=t.length:=by
    simp only [Bool.and_eq_false_iff,decide_eq_false_iff_not] at h
    omega
   rw [stop (line_none fun j j1 j2=>hno j j1 (by omega))]
   rfl
end Go.D3
namespace Go.D3
open Go
set_option maxRecDepth 100000
set_option maxHeartbeats 4000000
theorem Rd.vw1 {w:World} {A:Nat→Prop} {v:Value} {d:D} (h:Rd w A v (.vw d)):Rd w A v d:=by
 cases h with
 | vw h=>exact h
theorem Rd.dats {w:World} {A:Nat→Prop} {v:Value} {L:List Dat} (h:Rd w A v (lst datW none (L.map some))):Rd w A v (lst Dat.d Dat.zero L):=by
 have hcell:∀ (e:Dat) (k:Nat) (x:D),(Dat.d e).cells[k]?=some x→(datW (some e)).cells[k]?=some (.vw x):=fun e k x hx=>by
  match k,hx with
  | 0,hx=>cases hx;rfl
  | 1,hx=>cases hx;rfl
 have key:∀ {sz j:Nat} {x:D},cellAt (L.map Dat.d) sz j=some x→cellAt ((L.map some).map datW) sz j=some (.vw x):=fun {sz j x} hx=>by
  unfold cellAt at hx ⊢
  rw [List.getElem?_map] at hx
  rw [List.map_map,List.getElem?_map]
  cases hq:L[j / sz]? with
  | none=>rw [hq] at hx;cases hx
  | some r =>
   rw [hq] at hx
   simp only [Option.map_some,Option.bind_some,Function.comp] at hx ⊢
   exact hcell r _ x hx
 generalize hd:lst datW none (L.map some)=d at h
 cases h<;>simp only [lst,D.slice.injEq,reduceCtorEq] at hd
 case nil=>obtain ⟨_,h2⟩:=hd;cases L with | nil=>exact .nil | cons a b=>simp at h2
 case empty hm=>obtain ⟨_,h2⟩:=hd;cases L with | nil=>exact .empty hm | cons a b=>simp at h2
 case slice hA hc hm hz hzz hsz vs hcells hr =>
  obtain ⟨rfl,rfl⟩:=hd
  rw [List.length_map,List.length_map] at hc ⊢
  rw [show L.length=(L.map Dat.d).length by rw [List.length_map]]
  exact .slice (z:=Dat.d Dat.zero) hA (by rw [List.length_map];exact hc) hm hz hzz (fun x hx=>by
   obtain ⟨r,hr',rfl⟩:=List.mem_map.1 hx
   exact hsz (datW (some r)) (List.mem_map.2 ⟨some r,List.mem_map.2 ⟨r,hr',rfl⟩,rfl⟩)) vs (fun j x hx=>hcells j _ (key hx)) fun j x hx=>by
    exact (hr j _ (key hx)).vw1
def Hs.pl (s:Sch) (H:Hs):D:=Hst.d ⟨s,H.dt,H.tx,H.gd⟩
theorem Rd.hs {w:World} {A:Nat→Prop} {v:Value} {s:Sch} {H:Hs} (h:Rd w A v (Hs.d s H)):Rd w A v (Hs.pl s H):=by
 unfold Hs.d at h
 generalize hd:([.int .i64 s.nd,.vw (ints s.fr),.vw (ints s.to),.vw (lst Pth.d Pth.zero s.lf),.vw (lst Pth.d Pth.zero s.rt),lst datW none (H.dt.map some),lst (lst Chg.d Chg.zero) [] H.tx,.int .i64 H.gd]:List D)=l at h
 cases h with
 | agg hs hr =>
  subst hd
  refine .agg hs fun j x hx=>?_
  match j,hx with
  | 0,hx=>cases hx;exact hr 0 _ rfl
  | 1,hx=>cases hx;exact (hr 1 _ rfl).vw1
  | 2,hx=>cases hx;exact (hr 2 _ rfl).vw1
  | 3,hx=>cases hx;exact (hr 3 _ rfl).vw1
  | 4,hx=>cases hx;exact (hr 4 _ rfl).vw1
  | 5,hx=>cases hx;exact (hr 5 _ rfl).dats
  | 6,hx=>cases hx;exact hr 6 _ rfl
  | 7,hx=>cases hx;exact hr 7 _ rfl
def opnV:Option (Sch×Hs)→D
 | some p=>.tup [Hs.pl p.1 p.2,.bool true]
 | none=>.tup [Hst.d Hst.zero,.bool false]
theorem Rd.opn {w:World} {A:Nat→Prop} {v:Value} {o:Option (Sch×Hs)} (h:Rd w A v (opnD o)):Rd w A v (opnV o):=by
 cases o with
 | none=>exact h
 | some p =>
  unfold opnD at h
  generalize hd:([Hs.d p.1 p.2,.bool true]:List D)=l at h
  cases h with
  | tup hs hr =>
   subst hd
   refine .tup hs fun j x hx=>?_
   match j,hx with
   | 0,hx=>cases hx;exact (hr 0 _ rfl).hs
   | 1,hx=>cases hx;exact hr 1 _ rfl
theorem Ret.viewR {P:Program} {f:FuncId} {xs:List D} {res res':D} (hb:bodyF P f=true) (hx:∀ x∈xs,x.refs noRef) (hr:res'.okc=true) (hR:∀ (w:World) (A:Nat→Prop) (v:Value),Rd w A v res→Rd w A v res') (h:Ret P f (xs.map .v) res):RetG P f xs [] res' []:=by
 refine ⟨hb,fun w A vs gv Fs h0 h1 h2 h3 h4 h5 h6 h7=>(h w A vs (fun _ _=>False) h0 h1 (by simpa using h2) (fun j a ha=>?_) (fun _ _ _ _ h=>h.elim) (fun _ _ h=>h.elim)).mono ?_⟩
 ·rw [List.getElem?_map,Option.map_eq_some_iff] at ha
  obtain ⟨d,hd,rfl⟩:=ha
  exact ⟨bare_rd (h3 j d hd) (hx d (List.mem_of_getElem? hd)),fun _ h=>h⟩
 ·rintro e w' ⟨v,F,Fs',he,hsz,hown,_,hF,_,_,hsame,hos⟩
  refine ⟨_,_,v,fun _=>False,gv,fun _ _=>False,⟨rfl,rfl⟩,he,hsz,(okc_cont hr).2 (.rd (hR _ _ _ (own_new hown fun b hb=>⟨(hF b hb).1,(hF b hb).2.1.elim id fun ⟨_,hj⟩=>hj.elim⟩))),fun _ _ h=>h,fun _=>Pl.dead,fun _ _ _ h=>h,fun _ _=>rfl,fun _ h=>h.elim,fun _ _ h=>h.elim,fun _ _ _ _ h=>h.elim,fun b hb _=>hsame b hb fun _ h=>h,hos⟩
theorem ret_opnV (t:List UInt8) (ht:t.length≤5000000):RetG Go.Proofs.Tryz.prog 24 [.str t,.int .i64 1000000] [] (opnV (resJ t)) [] :=
 Ret.viewR (xs:=[.str t,.int .i64 1000000]) (by decide +kernel) (fun x hx=>by simp at hx;rcases hx with rfl | rfl<;>trivial) (by cases resJ t<;>rfl) (fun _ _ _ h=>h.opn) (ret_spec_l39Open t ht)
def c_spec_l39Last:C := (.seq (.ops [2,1] [⟨none,.boxv 8 (.v 0)⟩,⟨none,.alc [.nils (.int .i64 0),.nils (ints [])]⟩] [(2,0),(1,1)]) (.seq (.ops [] [⟨none,.fA 5 (.v 2)⟩,⟨none,.ld (.t 0)⟩,⟨none,.fA 5 (.v 2)⟩,⟨none,.ld (.t 2)⟩,⟨none,.len (.t 3)⟩,⟨none,.bin .sub (.t 4) (.i 1)⟩,⟨none,.idxA 2 (.t 1) (.t 5)⟩,⟨none,.lda 2 (.t 6)⟩,⟨none,.stn 2 (.v 1) (.t 7)⟩] []) .ret))
def tr_spec_l39Last:List Nat:=[0,2,1]
def rs_spec_l39Last:List RS:=[.c 1 2 true]
theorem ok_spec_l39Last:fnOk Go.Proofs.Tryz.prog Go.Proofs.Tryz.f25 tr_spec_l39Last c_spec_l39Last 1 rs_spec_l39Last=true:=by decide +kernel
theorem ret_spec_l39Last (x:Hst) (h : 0<x.dt.length) (hl:x.dt.length≤4294966000):RetG Go.Proofs.Tryz.prog 25 [Hst.d x] [] (Dat.d (x.dt.getD (x.dt.length-1) Dat.zero)) []:=by
 refine ret_fnG .refs Go.Proofs.Tryz.func25 rfl ok_spec_l39Last rfl ⟨by simp only [List.length_cons,List.length_nil];decide,by simp only [List.length_nil];decide⟩ rfl ?_;unfold c_spec_l39Last tr_spec_l39Last rs_spec_l39Last;simp only [go_sem,Nat.reduceLT,Nat.reduceAdd,Nat.reduceSub,Nat.reduceLeDiff,↓reduceIte]
 have hw:IntKind.i64.wrap ((x.dt.length:Int)-1)=((x.dt.length-1:Nat):Int):=by rw [wrap_small (by omega) (by omega)];omega
 rw [hw]
 exact ⟨⟨by omega,by omega⟩,rfl⟩
def addsF (d:Dat) (x:Nat):List Chg:=(List.range x).flatMap fun i:Nat=>List.replicate (d.sz.getD i 0).toNat (⟨1,i,0,0⟩:Chg)
def setsR (d:Dat) (k n:Nat):List Chg:=(List.range n).map fun r:Nat=>(⟨2,k,r,(d.mp.getD k []).getD r 0⟩:Chg)
def setsF (d:Dat) (k:Nat):List Chg:=(List.range k).flatMap fun i=>setsR d i (d.mp.getD i []).length
def smallF (d:Dat):List Chg:=addsF d d.sz.length++setsF d d.mp.length
theorem adds_succ {d:Dat} {x:Nat}:addsF d (x+1)=addsF d x++List.replicate (d.sz.getD x 0).toNat ⟨1,x,0,0⟩:=by
 unfold addsF
 rw [List.range_succ,List.flatMap_append,List.flatMap_singleton]
theorem sets_succ {d:Dat} {k:Nat}:setsF d (k+1)=setsF d k++setsR d k (d.mp.getD k []).length:=by
 unfold setsF
 rw [List.range_succ,List.flatMap_append,List.flatMap_singleton]
theorem setsR_succ {d:Dat} {k n:Nat}:setsR d k (n+1)=setsR d k n++[⟨2,k,n,(d.mp.getD k []).getD n 0⟩]:=by
 unfold setsR
 rw [List.range_succ,List.map_append];rfl
theorem adds_len {s:Sch} {d:Dat} (hd:DOk s d):∀ {x:Nat},x≤d.sz.length→(addsF d x).length≤16*x
 | 0,_=>Nat.le_refl _
 | x+1,h=>by
  have:=adds_len hd (x:=x) (by omega)
  have:=hd.szr x (by omega)
  rw [adds_succ,List.length_append,List.length_replicate];omega
theorem sets_len {s:Sch} {d:Dat} (hs:SOk s) (hd:DOk s d):∀ {k:Nat},k≤d.mp.length→(setsF d k).length≤16*k
 | 0,_=>Nat.le_refl _
 | k+1,h=>by
  have:=sets_len hs hd (k:=k) (by omega)
  have:=hd.mlen hs k
  rw [sets_succ,List.length_append]
  simp only [setsR,List.length_map,List.length_range];omega
theorem small_len {s:Sch} {d:Dat} (hs:SOk s) (hd:DOk s d):(smallF d).length≤256:=by
 have h1:=adds_len hd (Nat.le_refl _)
 have h2:=sets_len hs hd (Nat.le_refl _)
 have:=hd.nd
 have:=hs.n8
 have:=hs.f8
 have:=hd.mp
 unfold smallF
 rw [List.length_append];omega
def c_spec_l39Small:C := (.seq (.ops [2] [⟨none,.boxv 2 (.v 0)⟩,⟨none,.asg 1 (.k (.nils (.agg [.int .i64 0,.int .i64 0,.int .i64 0,.int .i64 0])))⟩] [(2,0)]) (.seq (.ops [] [⟨none,.bldS (.agg [.int .i64 0,.int .i64 0,.int .i64 0,.int .i64 0]) 0 []⟩,⟨none,.asg 3 (.t 0)⟩] []) (.seq (.seq (.ops [] [⟨none,.asg 4 (.i 0)⟩] []) (.block 0 (.loop (.seq (.opc [] [⟨none,.mv (.v 4)⟩,⟨none,.fA 0 (.v 2)⟩,⟨none,.ld (.t 1)⟩,⟨none,.len (.t 2)⟩,⟨none,.bin .lss (.t 0) (.t 3)⟩] [] (.t 4) .skip (.exit 0)) (.seq (.block 1 (.seq (.ops [] [⟨none,.asg 5 (.i 0)⟩] []) (.block 2 (.loop (.seq (.opc [] [⟨none,.mv (.v 5)⟩,⟨none,.fA 0 (.v 2)⟩,⟨none,.ld (.t 1)⟩,⟨none,.mv (.v 4)⟩,⟨none,.idxA 1 (.t 2) (.t 3)⟩,⟨none,.ld (.t 4)⟩,⟨none,.bin .lss (.t 0) (.t 5)⟩] [] (.t 6) .skip (.exit 2)) (.seq (.block 3 (.ops [] [⟨none,.mv (.v 3)⟩,⟨none,.mv (.v 4)⟩,⟨none,.bld [.int .i64 0,.int .i64 0,.int .i64 0,.int .i64 0] [(0,1,(.i 1)),(1,1,(.t 1))]⟩,⟨none,.bldS (.agg [.int .i64 0,.int .i64 0,.int .i64 0,.int .i64 0]) 1 [(0,(.t 2))]⟩,⟨none,.app 4 32 (.t 0) (.t 3)⟩,⟨none,.asg 3 (.t 4)⟩] [])) (.ops [] [⟨none,.mv (.v 5)⟩,⟨none,.bin .add (.t 0) (.i 1)⟩,⟨none,.asg 5 (.t 1)⟩] []))))))) (.ops [] [⟨none,.mv (.v 4)⟩,⟨none,.bin .add (.t 0) (.i 1)⟩,⟨none,.asg 4 (.t 1)⟩] [])))))) (.seq (.seq (.ops [] [⟨none,.asg 6 (.i 0)⟩] []) (.block 4 (.loop (.seq (.opc [] [⟨none,.mv (.v 6)⟩,⟨none,.fA 1 (.v 2)⟩,⟨none,.ld (.t 1)⟩,⟨none,.len (.t 2)⟩,⟨none,.bin .lss (.t 0) (.t 3)⟩] [] (.t 4) .skip (.exit 4)) (.seq (.block 5 (.seq (.ops [] [⟨none,.asg 7 (.i 0)⟩] []) (.block 6 (.loop (.seq (.opc [] [⟨none,.mv (.v 7)⟩,⟨none,.fA 1 (.v 2)⟩,⟨none,.ld (.t 1)⟩,⟨none,.mv (.v 6)⟩,⟨none,.idxA 1 (.t 2) (.t 3)⟩,⟨none,.ld (.t 4)⟩,⟨none,.len (.t 5)⟩,⟨none,.bin .lss (.t 0) (.t 6)⟩] [] (.t 7) .skip (.exit 6)) (.seq (.block 7 (.ops [] [⟨none,.mv (.v 3)⟩,⟨none,.mv (.v 6)⟩,⟨none,.mv (.v 7)⟩,⟨none,.fA 1 (.v 2)⟩,⟨none,.ld (.t 3)⟩,⟨none,.mv (.v 6)⟩,⟨none,.idxA 1 (.t 4) (.t 5)⟩,⟨none,.ld (.t 6)⟩,⟨none,.mv (.v 7)⟩,⟨none,.idxA 1 (.t 7) (.t 8)⟩,⟨none,.ld (.t 9)⟩,⟨none,.bld [.int .i64 0,.int .i64 0,.int .i64 0,.int .i64 0] [(0,1,(.i 2)),(1,1,(.t 1)),(2,1,(.t 2)),(3,1,(.t 10))]⟩,⟨none,.bldS (.agg [.int .i64 0,.int .i64 0,.int .i64 0,.int .i64 0]) 1 [(0,(.t 11))]⟩,⟨none,.app 4 32 (.t 0) (.t 12)⟩,⟨none,.asg 3 (.t 13)⟩] [])) (.ops [] [⟨none,.mv (.v 7)⟩,⟨none,.bin .add (.t 0) (.i 1)⟩,⟨none,.asg 7 (.t 1)⟩] []))))))) (.ops [] [⟨none,.mv (.v 6)⟩,⟨none,.bin .add (.t 0) (.i 1)⟩,⟨none,.asg 6 (.t 1)⟩] [])))))) (.seq (.ops [] [⟨none,.mv (.v 3)⟩,⟨none,.asg 1 (.t 0)⟩] []) .ret)))))
def tr_spec_l39Small:List Nat:=[0,2,1,3,4,5,6,7]
def rs_spec_l39Small:List RS:=[.t 1]
theorem ok_spec_l39Small:fnOk Go.Proofs.Tryz.prog Go.Proofs.Tryz.f32 tr_spec_l39Small c_spec_l39Small 1 rs_spec_l39Small=true:=by decide +kernel
theorem ret_spec_l39Small (s:Sch) (d:Dat) (hs:SOk s) (hd:DOk s d):Ret Go.Proofs.Tryz.prog 32 [.v (Dat.d d)] (lst Chg.d Chg.zero (smallF d)):=by
 have hnd:=hd.nd
 have hn8:=hs.n8
 have hf8:=hs.f8
 have hmp:=hd.mp
 refine ret_fn Go.Proofs.Tryz.func32 ok_spec_l39Small rfl (show 1<500 by decide) rfl ?_;unfold c_spec_l39Small tr_spec_l39Small rs_spec_l39Small;simp only [go_sem,Nat.reduceLT,Nat.reduceAdd,Nat.reduceSub,↓reduceIte]
 refine loop_set [5] (fun (x:Nat)=>[(3,.o (lst Chg.d Chg.zero (addsF d x))),(4,.int .i64 x)]) (fun x=>x≤d.sz.length) (fun x=>d.sz.length-x) 0 (by simp only [go_sem,Nat.reduceLT,↓reduceIte];rfl) (Nat.zero_le _) rfl ?_
 intro x hx
 simp only [go_sem,Nat.reduceLT,Nat.reduceAdd,Nat.reduceSub,↓reduceIte]
 refine ⟨fun h=>?_,fun h=>?_⟩
 ·have hz:=hd.szr x h
  have hal:=adds_len hd hx
  refine loop_set [] (fun (r:Nat)=>[(3,.o (lst Chg.d Chg.zero (addsF d x++List.replicate r ⟨1,x,0,0⟩))),(5,.int .i64 r)]) (fun r=>(r:Int)≤d.sz.getD x 0) (fun r=>(d.sz.getD x 0).toNat-r) 0 (by simp only [go_sem];rfl) hz.1 (by rw [List.replicate_zero,List.append_nil];rfl) ?_
  intro r hr
  simp only [go_sem,Nat.reduceLT,Nat.reduceAdd,Nat.reduceSub,Nat.reduceBEq,Nat.reduceLeDiff,↓reduceIte]
  refine ⟨h,fun h2=>?_,fun h2=>?_⟩
  ·refine ⟨by rw [List.length_append,List.length_replicate];omega,r+1,by omega,by omega,?_⟩
   rw [wrap_small (by omega) (by omega),List.append_assoc,← List.replicate_succ'];rfl
  ·refine ⟨x+1,h,by omega,?_⟩
   rw [wrap_small (by omega) (by omega),adds_succ,show r=(d.sz.getD x 0).toNat by omega];rfl
 ·have hxe:x=d.sz.length:=by omega
  subst hxe
  have hal:=adds_len hd hx
  refine loop_set [7] (fun (k:Nat)=>[(3,.o (lst Chg.d Chg.zero (addsF d d.sz.length++setsF d k))),(6,.int .i64 k)]) (fun k=>k≤d.mp.length) (fun k=>d.mp.length-k) 0 (by simp only [go_sem,Nat.reduceLT,↓reduceIte];rfl) (Nat.zero_le _) (by rw [show setsF d 0=[] from rfl,List.append_nil];rfl) ?_
  intro k hk
  simp only [go_sem,Nat.reduceLT,Nat.reduceAdd,Nat.reduceSub,Nat.reduceBEq,↓reduceIte]
  refine ⟨fun h=>?_,fun h=>?_⟩
  ·have hml:=hd.mlen hs k
   have hsl:=sets_len hs hd hk
   refine loop_set [] (fun (r:Nat)=>[(3,.o (lst Chg.d Chg.zero (addsF d d.sz.length++setsF d k++setsR d k r))),(7,.int .i64 r)]) (fun r=>r≤(d.mp.getD k []).length) (fun r=>(d.mp.getD k []).length-r) 0 (by simp only [go_sem];rfl) (Nat.zero_le _) (by rw [show setsR d k 0=[] from rfl,List.append_nil];rfl) ?_
   intro r hr
   have hrl:(setsR d k r).length=r:=by simp only [setsR,List.length_map,List.length_range]
   simp only [go_sem,Nat.reduceLT,Nat.reduceAdd,Nat.reduceSub,Nat.reduceBEq,Nat.reduceLeDiff,↓reduceIte]
   refine ⟨h,fun h2=>⟨h,h2,?_,r+1,h2,by omega,?_⟩,fun h2=>⟨k+1,h,by omega,?_⟩⟩
   ·rw [List.length_append,List.length_append,hrl];omega
   ·rw [wrap_small (by omega) (by omega),setsR_succ,List.append_assoc _ (setsR d k r)];rfl
   ·rw [wrap_small (by omega) (by omega),sets_succ,show r=(d.mp.getD k []).length by omega,List.append_assoc];rfl
  ·rw [show k=d.mp.length by omega];rfl
end Go.D3
namespace Go.D3
open Go
set_option maxRecDepth 100000
set_option maxHeartbeats 4000000
def Hst.of (s:Sch) (H:Hs):Hst:=⟨s,H.dt,H.tx,H.gd⟩
theorem last_of {s:Sch} {H:Hs}:(Hst.of s H).dt.getD ((Hst.of s H).dt.length-1) Dat.zero=H.last:=rfl
def rdD:Option (Sch×Hs)→D
 | some p=>.tup [ints p.2.last.sz,intss p.2.last.mp,.int .i64 p.2.tx.length,.int .i64 p.2.gd,.int .i64 0]
 | none=>.tup [ints [],intss [],.int .i64 0,.int .i64 0,.int .i64 6]
def c_spec_ReadJournal:C := (.seq (.ops [] [⟨none,.asg 1 (.k (.nils (.int .i64 0)))⟩,⟨none,.asg 2 (.k (.nils (ints [])))⟩,⟨none,.asg 3 (.i 0)⟩,⟨none,.asg 4 (.i 0)⟩,⟨none,.asg 5 (.i 0)⟩] []) (.seq (.ops [6] [⟨none,.mv (.v 0)⟩,⟨none,.dyn (.k (.fn 24 [])) [(.t 0),(.i 1000000)]⟩,⟨none,.mv (.t 1)⟩,⟨none,.ext 0 (.t 2)⟩,⟨none,.ext 1 (.t 2)⟩,⟨none,.alc [.int .i64 0,.nils (.int .i64 0),.nils (.int .i64 0),.nils (.agg [.int .i64 0,ints []]),.nils (.agg [.int .i64 0,ints []]),.nils (.agg [ints [],intss []]),.nils (.slice (.agg [.int .i64 0,.int .i64 0,.int .i64 0,.int .i64 0]) []),.int .i64 0]⟩,⟨none,.stn 8 (.t 5) (.t 3)⟩,⟨none,.asg 7 (.t 4)⟩] [(6,5)]) (.seq (.opc [] [⟨none,.mv (.v 7)⟩,⟨none,.not (.t 0)⟩] [] (.t 1) (.seq (.ops [] [⟨none,.asg 1 (.k (.nils (.int .i64 0)))⟩,⟨none,.asg 2 (.k (.nils (ints [])))⟩,⟨none,.asg 3 (.i 0)⟩,⟨none,.asg 4 (.i 0)⟩,⟨none,.asg 5 (.i 6)⟩] []) .ret) .skip) (.seq (.ops [8] [⟨none,.lda 8 (.v 6)⟩,⟨none,.dyn (.k (.fn 25 [])) [(.t 0)]⟩,⟨none,.alc [.nils (.int .i64 0),.nils (ints [])]⟩,⟨none,.stn 2 (.t 2) (.t 1)⟩] [(8,2)]) (.seq (.ops [1,2,3] [⟨none,.fA 0 (.v 8)⟩,⟨none,.ld (.t 0)⟩,⟨none,.call 26 [(.t 1)]⟩,⟨none,.fA 1 (.v 8)⟩,⟨none,.ld (.t 3)⟩,⟨none,.call 27 [(.t 4)]⟩,⟨none,.fA 6 (.v 6)⟩,⟨none,.ld (.t 6)⟩,⟨none,.len (.t 7)⟩,⟨none,.fA 7 (.v 6)⟩,⟨none,.ld (.t 9)⟩,⟨none,.mv (.t 2)⟩,⟨none,.mv (.t 5)⟩,⟨none,.mv (.t 8)⟩,⟨none,.asg 4 (.t 10)⟩,⟨none,.asg 5 (.i 0)⟩] [(1,11),(2,12),(3,13)]) .ret)))))
def tr_spec_ReadJournal:List Nat:=[0,2,3,4,5,6,7,8,9]
def rs_spec_ReadJournal:List RS:=[.t 1,.t 2,.t 3,.t 4,.t 5]
theorem ok_spec_ReadJournal:fnOk Go.Proofs.Tryz.prog Go.Proofs.Tryz.f7 tr_spec_ReadJournal c_spec_ReadJournal 1 rs_spec_ReadJournal=true:=by decide +kernel
theorem ret_spec_ReadJournal (t:List UInt8) (ht:t.length≤1048576):Ret Go.Proofs.Tryz.prog 7 [.v (.str t)] (rdD (resJ t)):=by
 refine ret_fn Go.Proofs.Tryz.func7 ok_spec_ReadJournal rfl (show 1<500 by decide) rfl ?_;unfold c_spec_ReadJournal tr_spec_ReadJournal rs_spec_ReadJournal;simp only [go_sem,Nat.reduceLT,Nat.reduceAdd,Nat.reduceSub,↓reduceIte]
 refine g_call [] false (ret_opnV t (by omega)) (by exact ⟨by decide,rfl⟩) (by repeat (first | exact trivial | refine ⟨rfl,?_⟩)) (by repeat (first | exact trivial | refine ⟨.inl rfl,?_⟩ | refine ⟨.inr ⟨rfl,rfl⟩,?_⟩)) (by repeat (first | exact trivial | refine ⟨(fun h=>by cases h),?_⟩)) (fun h=>by cases h) ?_
 cases hr:resJ t with
 | none =>
  simp only [opnV]
  simp only [go_sem,Nat.reduceLT,Nat.reduceAdd,Nat.reduceSub,Nat.reduceEqDiff,↓reduceIte]
  rfl
 | some p =>
  obtain ⟨hok,hH⟩:=resJ_ok hr
  have hs:=sok_of (ok_len hok).1
  obtain ⟨m1,m2⟩:=hH.last.small hs
  have hdl:=hH.dl
  have h6:=hH.t6
  have hgl:=hH.gl
  simp only [opnV,Hs.pl]
  simp only [go_sem,Nat.reduceLT,Nat.reduceAdd,Nat.reduceSub,Nat.reduceEqDiff,↓reduceIte]
  refine g_call [] false (ret_spec_l39Last (Hst.of p.1 p.2) (by show 0<p.2.dt.length;omega) (by show p.2.dt.length≤_;omega)) (by exact ⟨by decide,rfl⟩) (by repeat (first | exact trivial | refine ⟨rfl,?_⟩)) (by repeat (first | exact trivial | refine ⟨.inl rfl,?_⟩ | refine ⟨.inr ⟨rfl,rfl⟩,?_⟩)) (by repeat (first | exact trivial | refine ⟨(fun h=>by cases h),?_⟩)) (fun h=>by cases h) ?_
  rw [last_of]
  simp only [go_sem,Nat.reduceLT,Nat.reduceAdd,Nat.reduceSub,↓reduceIte]
  refine call_of (ret_spec_l01Own p.2.last.sz m1) rfl (.inl (nv_ints _)) ?_
  simp only [go_sem,Nat.reduceLT,Nat.reduceAdd,Nat.reduceSub,↓reduceIte]
  refine call_of (ret_spec_l01Own2 p.2.last.mp m2) rfl (.inl (nv_intss _)) ?_
  simp only [go_sem,Nat.reduceLT,Nat.reduceAdd,Nat.reduceSub,Nat.reduceEqDiff,Nat.reduceBEq,Nat.reduceLeDiff,↓reduceIte]
  rfl
end Go.D3
namespace Go.D3
open Go Go.ChangeShapes Go.RowKit Go.Proofs.YtgieggnpnepkfaaGreatDoor
section
variable {H:Type} {enc:TypeId×Value→H} {P:Program}
theorem var_heap {w:World} {n:String} {g:Nat} {cs:Array Value} (hg:P.globalNamed n=some g) (h:w.var? P n=some cs):∃ t fz,w.heap[g]?=some (.cells cs t fz):=by
 simp only [World.var?,hg,Option.bind_some] at h
 split at h
 ·rename_i c t fz hb
  cases h
  exact ⟨t,fz,hb⟩
 ·cases h
theorem var_below {w w':World} {n:String} {g:Nat} {cs:Array Value} (hg:P.globalNamed n=some g) (hb:Below w.heap.size w w') (h:w.var? P n=some cs):w'.var? P n=some cs:=by
 obtain ⟨t,fz,hh⟩:=var_heap hg h
 have hlt:g<w.heap.size:=(Array.getElem?_eq_some_iff.1 hh).1
 simp only [World.var?,hg,Option.bind_some,hb.block g hlt,hh]
theorem law_contractV {f:FuncId} {fn:Func} {s:ChangeSpec} {ty:Ty} {tb:TypeId} {fresh handsOn again:Bool} {nm:String} {g:Nat} {ti:TypeId} {ms:Array (String×TypeId)} {x:Value} {W:World}
  (hvars:s.vars=[nm]) (hg:P.globalNamed nm=some g) (ht:(P.globals[g]?).map (·.type)=some ti) (hi:P.underlying ti=some (.interface ms)) (hx:W.var? P nm=some #[x]) (ix:IsIface x)
  (hres:fn.resultTypes=#[tb]) (htb:P.underlying tb=some .bool) (hl:laidOutB P=true)
  (hchk:ty.chkAll P fn.params.toList=true) (hspec:∀ (ds:List (DataW H)) (e:DataW H),ds.length=fn.params.size→s.fn H (ds++[e])={ results:=[.lit (.bool true)],args:=ds,vars:=[e] }) (hR:∀ y:ty.V,Ret P f ((ty.args y).map .v) (.bool true))
  {base:Nat} {args:Array Value} {ds gs:List (DataW H)} {before:List MemPlace}
  (hgl:GOk W (live' W)) (hval:∀ (j:Nat) t v,fn.params[j]?=some t→args[j]?=some v→Value.okWide P W .any base t v) (hW:DataW.Whole enc P fn.params.toList s.vars false W args.toList ds gs before) :
  Calls P f args W fun e W'=>∃ v,e=.returned v∧s.post enc P fn false fresh handsOn again W args v W':=by
 have hW':=hW
 obtain ⟨p,q,hA,hV,rfl,hz,_⟩:=hW
 rw [hvars] at hV
 obtain ⟨rfl,rfl⟩:=hV.unique (vars_read1 enc hg ht hi hx ix _)
 have hlen:ds.length=fn.params.size:=by
  have key:∀ {ts:List TypeId} {vs:List Value} {ds:List (DataW H)} {ps:List MemPlace},DataW.TrodAll enc P W 0 (fun _=>true) true ts vs ds ps→ds.length=ts.length:=by
   intro ts
   induction ts with
   | nil=>intro vs ds ps h;obtain ⟨_,rfl,_⟩:=trodAll_nil h;rfl
   | cons t ts ih=>intro vs ds ps h;obtain ⟨v,vs',d,ds',a,b,_,rfl,_,_,h2⟩:=trodAll_cons h;simp [ih h2]
  simpa using key hA
 have hlt:=hW'.lt
 have hltp:∀ y∈p,y.block<W.heap.size:=fun y hy=>hlt y (List.mem_append_left _ hy)
 obtain ⟨y,hy1,hy2⟩:=args_rd (base:=base) ty hchk hA fun j t v hj hv=>hval j t v (by simpa using hj) (by simpa using hv)
 refine (hR y W (live' W) args (fun _ _=>False) hgl (fun _ h=>h) (by simpa using hy1) (fun j a ha=>?_) (fun _ _ _ _ h=>h.elim) (fun _ _ h=>h.elim)).mono ?_
 ·rw [List.getElem?_map,Option.map_eq_some_iff] at ha
  obtain ⟨d,hd,rfl⟩:=ha
  refine ⟨?_,fun _ h=>h⟩
  have:=hy2 j d hd
  simpa using this
 rintro e W' ⟨v,F,Fs',rfl,hsz,hown,_,_,_,_,hsame,hos,htape,hout⟩
 have hv:v=.bool true:=by cases hown;rfl
 subst hv
 have hb:Below W.heap.size W W':=⟨hos,htape,hout,hsz,fun k hk=>hsame k hk fun _ h=>h⟩
 refine ⟨_,rfl,?_⟩
 have hold:∀ x∈p,(fun b=>decide (b<W.heap.size)) x.block=true:=fun x hx=>by simpa using hltp x hx
 have hsp:=hspec ds (tok enc x) hlen
 have hresl:(Value.bool true).resultList fn.resultTypes.size=[.bool true]:=by rw [hres];rfl
 have hr:∀ (b:Nat) (sp:Nat→Bool) (hd:Bool),DataW.TrodAll enc P W' b sp hd fn.resultTypes.toList ((Value.bool true).resultList fn.resultTypes.size) [.lit (.bool true)] []:=fun b sp hd=>by
  rw [hresl,hres];exact trodAll_cons_mk (shut_bool htb _) trodAll_mk0
 have hargs:∀ sp:Nat→Bool,(∀ x∈p,sp x.block=true)→DataW.TrodAll enc P W' 0 sp true fn.params.toList args.toList ds p:=fun sp h=>args_again hl hb ty hchk hA hltp h
 have hvs:∀ sp:Nat→Bool,DataW.TrodVars enc P W' sp [nm] [tok enc x] [.cell g 0]:=fun sp=>vars_read1 enc hg ht hi (var_below hg hb hx) ix sp
 refine ⟨ds,[tok enc x],p++[.cell g 0],[],p,[.cell g 0],hW',?_,?_,?_,kept_of_below hb _,fun _=>⟨?_,[.lit (.bool true)]++ds,[tok enc x],p++[.cell g 0],?_,fun _ h _=>h⟩⟩
 ·rw [hsp];exact hr _ _ _
 ·rw [hsp];exact hargs _ hold
 ·rw [hsp,hvars];exact hvs _
 ·exact ok_one hres rfl (okWide_bool_mk htb _)
 ·refine ⟨p,[.cell g 0],?_,by rw [hvars];exact hvs _,rfl,?_,fun h=>by cases h⟩
  ·have:=trodAll_append (hargs (fun _=>true) fun _ _=>rfl) (hr 0 (fun _=>true) true)
   simpa using this
  ·intro b off hx
   have hbl:=hlt _ hx
   have:=hz b off hx
   have e:W'.frozen? ⟨b,off,none⟩=W.frozen? ⟨b,off,none⟩:=by
    unfold World.frozen?
    rw [hb.block b hbl]
   rw [e];exact this
end
theorem errType:(Go.Proofs.Tryz.prog.globals[0]?).map (·.type)=some 135:=by kernel_rfl
abbrev errN:String:=Rows.fnExactReadJournalSpec.vars.headD ""
abbrev ifN:DataW Unit→String
 | .iface n _=>n
 | _ => ""
abbrev errT:String:=ifN Rows.laid_strconv_ErrSyntax
theorem errName:Go.Proofs.Tryz.prog.globalNamed errN=some 0:=by kernel_rfl
theorem errUnder:∃ ms,Go.Proofs.Tryz.prog.underlying 135=some (.interface ms):=by
 have h:(match Go.Proofs.Tryz.prog.underlying 135 with | some (.interface _)=>true | _=>false)=true:=by kernel_rfl
 split at h
 ·rename_i ms hm
  exact ⟨ms,hm⟩
 ·cases h
theorem errStr:∃ f,Go.Proofs.Tryz.prog.underlying 231=some (.struct #[f])∧f.type=9∧f.offset=0:=by
 have h:(match Go.Proofs.Tryz.prog.underlying 231 with | some (.struct ⟨[f]⟩)=>decide (f.type=9∧f.offset=0) | _=>false)=true:=by kernel_rfl
 split at h
 ·rename_i f hm
  exact ⟨f,hm,of_decide_eq_true h⟩
 ·cases h
theorem row_e (u:TypeId) (h:Go.Proofs.Tryz.prog.typeName? 3 u=some errT):u=229 :=
 typeName_ptr_named (nm := "errors.errorString") (by kernel_rfl) (by kernel_rfl) (by decide) u (h.trans (by decide))
abbrev LaidL:List (String×DataW Unit):=Rows.fnExactReadJournalRow.laid
theorem laid_met {W:World} (h:laidMetH Go.Proofs.Tryz.prog LaidL W):laidMet Go.Proofs.Tryz.prog LaidL W:=by
 rw [MakeChecks.laidMetH_plain _ _ _ (by kernel_rfl)] at h
 exact h
theorem gok_of {W:World} (hL:laidMetH Go.Proofs.Tryz.prog LaidL W) (hS:W.ShapedOpen Go.Proofs.Tryz.prog):GOk W (live' W)∧∃ x,W.var? Go.Proofs.Tryz.prog errN=some #[x]∧IsIface x:=by
 have h0:=laid_met hL
 have lt:∀ {g:Nat} {n:String} {cs:Array Value},Go.Proofs.Tryz.prog.globalNamed n=some g→W.var? Go.Proofs.Tryz.prog n=some cs→g<W.heap.size:=fun hg hv=>by
  obtain ⟨t,fz,hh⟩:=var_heap hg hv
  exact (Array.getElem?_eq_some_iff.1 hh).1
 obtain ⟨ms,hms⟩:=errUnder
 have hp:Go.Proofs.Tryz.prog.underlying 229=some (.pointer 231):=by kernel_rfl
 have gp:Go.Proofs.Tryz.prog.globalNamed Go.Proofs.Tryz.powN=some 1:=by kernel_rfl
 have g5:Go.Proofs.Tryz.prog.globalNamed "strconv.ErrSyntax"=some 5:=by kernel_rfl
 have g6:Go.Proofs.Tryz.prog.globalNamed "strconv.ErrRange"=some 6:=by kernel_rfl
 have tab:Lib.TabIs Go.Proofs.Tryz.prog W Go.Proofs.Tryz.powN .u64 Lib.pow10Tab:=Lib.tabIs_of_head (t:=160) (e:=140) (n:=20) gp (by kernel_rfl) (by kernel_rfl) (by kernel_rfl) (by kernel_rfl) (by kernel_rfl) h0.tail.tail
 have sent:∀ {n:String} {text:List UInt8} {r:List (String×DataW Unit)} {g:Nat},laidMet Go.Proofs.Tryz.prog ((n,.iface errT (.ptr (.agg [.lit (.string text)])))::r) W→Go.Proofs.Tryz.prog.globalNamed n=some g→(Go.Proofs.Tryz.prog.globals[g]?).map (·.type)=some 135 →
   ∃ a,W.var? Go.Proofs.Tryz.prog n=some #[.iface 229 (.pointer (some a))]:=fun h hg ht=>by
  obtain ⟨f,hf,hf1,hf2⟩:=errStr
  obtain ⟨a,s,hv,_⟩:=laid_sentinel (te:=231) (ts:=9) h hg ht hms row_e hp hf hf1 hf2 (by kernel_rfl) (by kernel_rfl) (by kernel_rfl)
  exact ⟨a,hv⟩
 obtain ⟨a6,v6⟩:=sent h0.tail.tail.tail.tail g6 (by kernel_rfl)
 obtain ⟨a5,v5⟩:=sent h0.tail.tail.tail.tail.tail g5 (by kernel_rfl)
 obtain ⟨a0,v0⟩:=sent h0.tail.tail.tail.tail.tail.tail errName errType
 have c0:W.cell? ⟨0,0,none⟩=some (.iface 229 (.pointer (some a0))):=by simpa using World.var?_cell errName v0 0
 obtain ⟨m,hm⟩:=Go.Proofs.cell_of_shapedOpen_int (P:=Go.Proofs.Tryz.prog) (g:=2) (t:=3) (zero:=#[.int .i64 0]) hS (of_decide_eq_true (by kernel_rfl)) (by kernel_rfl) rfl (by kernel_rfl) (by kernel_rfl) (by kernel_rfl)
 have l0:=lt errName v0
 refine ⟨⟨fun g d hd=>?_,?_,⟨m,hm,(cell_live' hm).1⟩,⟨229,_,by simpa using World.var?_cell g5 v5 0,lt g5 v5⟩,⟨229,_,by simpa using World.var?_cell g6 v6 0,lt g6 v6⟩⟩,_,v0,trivial⟩
 ·match g,hd with
  | 0,hd =>
   cases hd
   refine .ptr l0 (fun _=>.iface 229 (.pointer (some a0))) (fun j x hj=>?_) (fun j x hj=>?_)
   ·match j with
    | 0=>exact c0
    | _+1=>cases hj
   ·match j with
    | 0=>cases hj;exact .ifc (.sent l0 c0)
    | _+1=>cases hj
 ·obtain ⟨t,fz,hh⟩:=var_heap gp tab
  exact ⟨t,fz,hh,lt gp tab⟩
end Go.D3
