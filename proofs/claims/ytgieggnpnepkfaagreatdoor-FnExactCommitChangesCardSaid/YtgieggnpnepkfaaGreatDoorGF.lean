/- CONTRACTS: what the good part of a journal tells,the program's side: walked,for a pointer stands in a tuple. -/
import Derived.Test.YtgieggnpnepkfaaGreatDoorGE
import Derived.Test.YtgieggnpnepkfaaGreatDoorGC
import Derived.Test.YtgieggnpnepkfaaGreatDoorKit
import Derived.Test.YtgieggnpnepkfaaGreatDoorChecked
import Derived.Tactics
import Derived.Tactics2
import Derived.Defers
import Derived.Laws.Pointers
import Derived.RegionTactic
import Derived.RegionCalls
import Derived.Laws.NewBlocks
namespace Go.D3
open Go
set_option maxRecDepth 100000
set_option maxHeartbeats 4000000
theorem own_new {w w':World} {A:Nat→Prop} {v:Value} {d:D} {F:Nat→Prop} {S:Nat→Prop} (h:Own w' (fun b=>A b∨(w.heap.size≤b∧b<w'.heap.size∧¬ F b∧S b)) v d F) (hF:∀ b,F b→b<w'.heap.size∧w.heap.size≤b) :
  Rd w' (fun b=>A b∨(w.heap.size≤b∧b<w'.heap.size∧¬ False∧∀ _:Nat,¬ False)) v d :=
 h.rd (fun _ hb=>hb.imp id fun h=>⟨h.1,h.2.1,id,fun _=>id⟩) fun b hb=>.inr ⟨(hF b hb).2,(hF b hb).1,id,fun _=>id⟩
theorem RetE.view {P:Program} {f:FuncId} {xs:List D} {Q:List D→Prop} (h:RetE P f xs [] fun rc gs=>gs=[]∧∃ l,rc=.o (.tup l)∧Q l):RetE P f xs [] fun rc gs=>gs=[]∧∃ l,rc=.tup l∧Q l:=by
 refine ⟨h.1,fun w A vs gv Fs h0 h1 h2 h3 h4 h5 h6 h7=>(h.2 w A vs gv Fs h0 h1 h2 h3 h4 h5 h6 h7).mono ?_⟩
 rintro e w' ⟨rc,gs',v,F,gv',Fs',⟨rfl,l,rfl,hQ⟩,he,hsz,hc,_,_,hemp,_,hF,_,_,hsame,hos⟩
 refine ⟨_,_,v,fun _=>False,gv,fun _ _=>False,⟨rfl,l,rfl,hQ⟩,he,hsz,.rd (own_new hc fun b hb=>⟨(hF b hb).1,(hF b hb).2.1.elim id fun ⟨j,hj⟩=>absurd hj (h5 j rfl b)⟩),fun _ _ h=>h,fun _=>Pl.dead,fun _ _ _ h=>h,fun _ _=>rfl,fun _ h=>h.elim,fun _ _ h=>h.elim,fun _ _ _ _ h=>h.elim,hsame,hos⟩
theorem Ret.view {P:Program} {f:FuncId} {xs:List D} {res:D} (hb:bodyF P f=true) (hx:∀ x∈xs,x.refs noRef) (hr:res.okc=true) (h:Ret P f (xs.map .v) res):RetG P f xs [] res []:=by
 refine ⟨hb,fun w A vs gv Fs h0 h1 h2 h3 h4 h5 h6 h7=>(h w A vs (fun _ _=>False) h0 h1 (by simpa using h2) (fun j a ha=>?_) (fun _ _ _ _ h=>h.elim) (fun _ _ h=>h.elim)).mono ?_⟩
 ·rw [List.getElem?_map,Option.map_eq_some_iff] at ha
  obtain ⟨d,hd,rfl⟩:=ha
  exact ⟨bare_rd (h3 j d hd) (hx d (List.mem_of_getElem? hd)),fun _ h=>h⟩
 ·rintro e w' ⟨v,F,Fs',he,hsz,hown,_,hF,_,_,hsame,hos⟩
  refine ⟨_,_,v,fun _=>False,gv,fun _ _=>False,⟨rfl,rfl⟩,he,hsz,(okc_cont hr).2 (.rd (own_new hown fun b hb=>⟨(hF b hb).1,(hF b hb).2.1.elim id fun ⟨_,hj⟩=>hj.elim⟩)),fun _ _ h=>h,fun _=>Pl.dead,fun _ _ _ h=>h,fun _ _=>rfl,fun _ h=>h.elim,fun _ _ h=>h.elim,fun _ _ _ _ h=>h.elim,fun b hb _=>hsame b hb fun _ h=>h,hos⟩
def datW:Option Dat→D
 | some d=>.agg [.vw (ints d.sz),.vw (intss d.mp)]
 | none=>.agg [ints [],intss []]
def allE (s:Sch) (l:List Chg):Option Dat→D
 | some d=>.o (.tup [datW (some d),.bool (decide (l.length≤40)&&d.wholeB s)])
 | none=>.o (.tup [datW none,.bool false])
def c_spec_l39All:C := (.seq (.ops [5,6,3] [⟨none,.boxv 5 (.v 0)⟩,⟨none,.box 2 (.v 1)⟩,⟨none,.alc [.nils (.int .i64 0),.nils (ints [])]⟩,⟨none,.asg 4 (.k (.bool false))⟩] [(5,0),(6,1),(3,2)]) (.seq (.seq (.ops [] [⟨none,.asg 7 (.i 0)⟩] []) (.block 0 (.loop (.seq (.opc [] [⟨none,.mv (.v 7)⟩,⟨none,.mv (.v 2)⟩,⟨none,.len (.t 1)⟩,⟨none,.bin .lss (.t 0) (.t 2)⟩] [] (.t 3) .skip (.exit 0)) (.seq (.block 1 (.seq (.alt [8] (.two 6 10 [0,1,2,3,4,5,10,6,7,8,9,11,12] (.two 9 11 [0,1,2,3,4,5,6,7,8,10,11,9,12] (.leaf [⟨none,.lda 5 (.v 5)⟩,⟨none,.lda 2 (.v 6)⟩,⟨none,.mv (.v 2)⟩,⟨none,.mv (.v 7)⟩,⟨none,.idxA 4 (.t 2) (.t 3)⟩,⟨none,.lda 4 (.t 4)⟩,⟨none,.dyn (.k (.fn 53 [])) [(.t 0),(.t 1),(.t 5)]⟩,⟨none,.mv (.t 6)⟩,⟨none,.ext 0 (.t 7)⟩,⟨none,.ext 1 (.t 7)⟩,⟨none,.alc [.nils (.int .i64 0),.nils (ints [])]⟩,⟨none,.stn 2 (.t 10) (.t 8)⟩,⟨none,.asg 9 (.t 9)⟩] [(8,10)]) (.leaf [⟨none,.lda 5 (.v 5)⟩,⟨none,.lda 2 (.v 6)⟩,⟨none,.mv (.v 2)⟩,⟨none,.mv (.v 7)⟩,⟨none,.idxA 4 (.t 2) (.t 3)⟩,⟨none,.lda 4 (.t 4)⟩,⟨none,.dyn (.k (.fn 53 [])) [(.t 0),(.t 1),(.t 5)]⟩,⟨none,.mv (.t 6)⟩,⟨none,.ext 0 (.t 7)⟩,⟨none,.alc [.nils (.int .i64 0),.nils (ints [])]⟩,⟨none,.stn 2 (.t 9) (.t 8)⟩,⟨none,.ext 1 (.t 7)⟩,⟨none,.asg 9 (.t 11)⟩] [(8,9)])) (.two 10 11 [0,1,2,3,4,5,6,7,8,9,11,10,12] (.leaf [⟨none,.lda 5 (.v 5)⟩,⟨none,.lda 2 (.v 6)⟩,⟨none,.mv (.v 2)⟩,⟨none,.mv (.v 7)⟩,⟨none,.idxA 4 (.t 2) (.t 3)⟩,⟨none,.lda 4 (.t 4)⟩,⟨none,.alc [.nils (.int .i64 0),.nils (ints [])]⟩,⟨none,.dyn (.k (.fn 53 [])) [(.t 0),(.t 1),(.t 5)]⟩,⟨none,.mv (.t 7)⟩,⟨none,.ext 0 (.t 8)⟩,⟨none,.ext 1 (.t 8)⟩,⟨none,.stn 2 (.t 6) (.t 9)⟩,⟨none,.asg 9 (.t 10)⟩] [(8,6)]) (.leaf [⟨none,.lda 5 (.v 5)⟩,⟨none,.lda 2 (.v 6)⟩,⟨none,.mv (.v 2)⟩,⟨none,.mv (.v 7)⟩,⟨none,.idxA 4 (.t 2) (.t 3)⟩,⟨none,.lda 4 (.t 4)⟩,⟨none,.alc [.nils (.int .i64 0),.nils (ints [])]⟩,⟨none,.dyn (.k (.fn 53 [])) [(.t 0),(.t 1),(.t 5)]⟩,⟨none,.mv (.t 7)⟩,⟨none,.ext 0 (.t 8)⟩,⟨none,.stn 2 (.t 6) (.t 9)⟩,⟨none,.ext 1 (.t 8)⟩,⟨none,.asg 9 (.t 11)⟩] [(8,6)])))) (.seq (.opc [] [⟨none,.mv (.v 9)⟩,⟨none,.not (.t 0)⟩] [] (.t 1) (.seq (.ops [] [⟨none,.bld [.nils (.int .i64 0),.nils (ints [])] []⟩,⟨none,.stn 2 (.v 3) (.t 0)⟩,⟨none,.asg 4 (.k (.bool false))⟩] []) .ret) .skip) (.ops [] [⟨none,.lda 2 (.v 8)⟩,⟨none,.stn 2 (.v 6) (.t 0)⟩] [])))) (.ops [] [⟨none,.mv (.v 7)⟩,⟨none,.bin .add (.t 0) (.i 1)⟩,⟨none,.asg 7 (.t 1)⟩] [])))))) (.seq (.alt [] (.two 8 9 [0,1,2,3,4,5,6,7,9,8,10] (.leaf [⟨none,.lda 2 (.v 6)⟩,⟨none,.mv (.v 2)⟩,⟨none,.len (.t 1)⟩,⟨none,.bin .leq (.t 2) (.i 40)⟩,⟨none,.mv (.t 3)⟩,⟨some (4,true),.lda 5 (.v 5)⟩,⟨some (4,true),.lda 2 (.v 6)⟩,⟨some (4,true),.call 54 [(.t 5),(.t 6)]⟩,⟨none,.pick (.t 4) (.t 7) (.k (.bool false))⟩,⟨none,.stn 2 (.v 3) (.t 0)⟩,⟨none,.asg 4 (.t 8)⟩] []) (.leaf [⟨none,.lda 2 (.v 6)⟩,⟨none,.mv (.v 2)⟩,⟨none,.len (.t 1)⟩,⟨none,.bin .leq (.t 2) (.i 40)⟩,⟨none,.mv (.t 3)⟩,⟨some (4,true),.lda 5 (.v 5)⟩,⟨some (4,true),.lda 2 (.v 6)⟩,⟨some (4,true),.call 54 [(.t 5),(.t 6)]⟩,⟨none,.stn 2 (.v 3) (.t 0)⟩,⟨none,.pick (.t 4) (.t 7) (.k (.bool false))⟩,⟨none,.asg 4 (.t 9)⟩] []))) .ret)))
def tr_spec_l39All:List Nat:=[0,1,2,6,7,3,4,8,9,10]
def rs_spec_l39All:List RS:=[.c 3 2 true,.t 4]
theorem ok_spec_l39All:fnOk Go.Proofs.Tryz.prog Go.Proofs.Tryz.f37 tr_spec_l39All c_spec_l39All 3 rs_spec_l39All=true:=by decide +kernel
theorem ret_spec_l39All (s:Sch) (d:Dat) (l:List Chg) (h:s.ok=true) (hd:DOk s d) (hl:l.length≤4294966000):RetG Go.Proofs.Tryz.prog 37 [Sch.d s,Dat.d d,.sub 0 []] [.o (lst Chg.d Chg.zero l)] (allE s l (Dat.all s d l)) [.o (lst Chg.d Chg.zero l)]:=by
 have hs:=sok_of (ok_len h).1
 refine ret_fnG .tree Go.Proofs.Tryz.func37 rfl ok_spec_l39All rfl ⟨by simp only [List.length_cons,List.length_nil];decide,by simp only [List.length_cons,List.length_nil];decide⟩ rfl ?_;unfold c_spec_l39All tr_spec_l39All rs_spec_l39All;simp only [go_sem,Nat.reduceLT,Nat.reduceAdd,Nat.reduceSub,Nat.reduceBEq,Nat.reduceLeDiff,↓reduceIte]
 refine loop_set [8,9] (fun (p:Nat×Dat)=>[(6,.box [ints p.2.sz,intss p.2.mp]),(7,.int .i64 p.1)]) (fun p=>p.1≤l.length∧Dat.all s p.2 (l.drop p.1)=Dat.all s d l∧DOk s p.2) (fun p=>l.length-p.1) (0,d) (by simp only [go_sem,Nat.reduceLT,Nat.reduceBEq,↓reduceIte];rfl) ⟨Nat.zero_le _,rfl,hd⟩ rfl ?_
 rintro ⟨i,e⟩ ⟨hi,ha,he⟩
 simp only at hi ha he
 simp only [go_sem,Nat.reduceLT,Nat.reduceAdd,Nat.reduceSub,Nat.reduceBEq,Nat.reduceLeDiff,↓reduceIte]
 have hV:=Ret.view (xs:=[Sch.d s,Dat.d e,Chg.d (l.getD i Chg.zero)]) (by decide +kernel) (fun x hx=>by simp at hx;rcases hx with rfl | rfl | rfl<;>simp only [Sch.d,Sch.cells,Dat.d,Dat.cells,Chg.d,Chg.cells,D.refs,refsL,lst_refs,and_self]) (by split<;>rfl) (ret_spec_l39Apply s e (l.getD i Chg.zero) hs he)
 refine ⟨fun h2=>⟨⟨⟨h2,h2,?_⟩,h2,h2,?_⟩,⟨h2,h2,?_⟩,h2,h2,?_⟩,fun h2=>?_⟩
 iterate 4
  ·rw [all_drop h2] at ha
   refine g_call [] false hV (by exact ⟨by decide,rfl⟩) (by repeat (first | exact trivial | refine ⟨rfl,?_⟩)) (by repeat (first | exact trivial | refine ⟨.inl rfl,?_⟩ | refine ⟨.inr ⟨rfl,rfl⟩,?_⟩)) (by repeat (first | exact trivial | refine ⟨(fun h=>by cases h),?_⟩)) (fun h=>by cases h) ?_
   have hstep:=fun hc=>he.app (c:=l.getD i Chg.zero) hs hc
   cases hc:e.can s (l.getD i Chg.zero) with
   | false =>
    rw [hc,if_neg (by simp)] at ha
    rw [← ha,if_neg (by simp)]
    simp only [allE,datW]
    simp only [go_sem,Nat.reduceLT,Nat.reduceAdd,Nat.reduceSub,Nat.reduceEqDiff,Nat.reduceBEq,Nat.reduceLeDiff,↓reduceIte]
    all_goals rfl
   | true =>
    rw [hc,if_pos rfl] at ha
    rw [if_pos rfl]
    have:=hstep hc
    generalize e.app s (l.getD i Chg.zero)=e' at ha this
    simp only [go_sem,Nat.reduceLT,Nat.reduceAdd,Nat.reduceSub,Nat.reduceEqDiff,Nat.reduceBEq,Nat.reduceLeDiff,↓reduceIte]
    exact ⟨(i+1,e'),⟨h2,ha,this⟩,by show l.length-(i+1)<l.length-i;omega,by rw [wrap_small (by omega) (by omega)];rfl⟩
 rw [show i=l.length by omega,List.drop_length] at ha
 rw [← ha]
 have h40:decide ((l.length:Int)≤40)=decide (l.length≤40):=decide_eq_decide.2 (by omega)
 refine ⟨callg_of (fun _=>ret_spec_l39Whole s e h he) rfl (fun h=>h) (.inl rfl) ?_,callg_of (fun _=>ret_spec_l39Whole s e h he) rfl (fun h=>h) (.inl rfl) ?_⟩
 all_goals (
  simp only [go_sem,Nat.reduceLT,Nat.reduceAdd,Nat.reduceSub,Nat.reduceBEq,Nat.reduceLeDiff,↓reduceIte,allE,datW,Dat.all]
  rw [h40])
end Go.D3
namespace Go.D3
open Go
def lineAt (t:List UInt8) (a:Nat):Option (List UInt8):=if (Lib.cut (t.drop a) [10]).2.2=true then some (Lib.cut (t.drop a) [10]).1 else none
theorem nl_first {t:List UInt8} {a:Nat}:(∃ i,a≤i∧i<t.length∧t.getD i 0=10∧∀ j,a≤j→j<i→t.getD j 0≠10)∨∀ j,a≤j→j<t.length→t.getD j 0≠10:=by
 by_cases h:∃ i,a≤i∧i<t.length∧t.getD i 0=10
 ·refine .inl ?_
  obtain ⟨i,hi⟩:=h
  induction i using Nat.strongRecOn with
  | _ i ih =>
   by_cases hj:∃ j,a≤j∧j<i∧t.getD j 0=10
   ·obtain ⟨j,h1,h2,h3⟩:=hj
    exact ih j h2 ⟨h1,by omega,h3⟩
   ·exact ⟨i,hi.1,hi.2.1,hi.2.2,fun j h1 h2 h3=>hj ⟨j,h1,h2,h3⟩⟩
 ·exact .inr fun j h1 h2 h3=>h ⟨j,h1,h2,h3⟩
theorem getD_drop {t:List UInt8} {a j:Nat}:(t.drop a).getD j 0=t.getD (a+j) 0:=by rw [List.getD_eq_getElem?_getD,List.getElem?_drop,← List.getD_eq_getElem?_getD]
theorem cut_drop {t:List UInt8} {a i:Nat} (ha:a≤i) (hi:i<t.length) (hc:t.getD i 0=10) (h:∀ j,a≤j→j<i→t.getD j 0≠10):Lib.cut (t.drop a) [10]=((t.take i).drop a,t.drop (i+1),true):=by
 rw [cut_at (i:=i-a) (fun j hj=>by rw [getD_drop];exact h _ (by omega) (by omega)) (by rw [List.length_drop];omega) (by rw [getD_drop,show a+(i-a)=i by omega];exact hc),List.drop_drop,show a+(i-a+1)=i+1 by omega,List.drop_take]
theorem line_some {t:List UInt8} {a i:Nat} (ha:a≤i) (hi:i<t.length) (hc:t.getD i 0=10) (h:∀ j,a≤j→j<i→t.getD j 0≠10):lineAt t a=some ((t.take i).drop a):=by
 unfold lineAt
 rw [cut_drop ha hi hc h];rfl
theorem line_none {t:List UInt8} {a:Nat} (h:∀ j,a≤j→j<t.length→t.getD j 0≠10):lineAt t a=none:=by
 unfold lineAt
 rw [cut_end fun j hj=>by rw [List.length_drop] at hj;rw [getD_drop];exact h _ (by omega) (by omega)];rfl
theorem line_lt {t:List UInt8} {a:Nat} {l:List UInt8} (h:lineAt t a=some l):a+l.length<t.length:=by
 rcases nl_first (t:=t) (a:=a) with ⟨i,h1,h2,h3,h4⟩ | hn
 ·rw [line_some h1 h2 h3 h4] at h
  injection h with h
  rw [← h,List.length_drop,List.length_take];omega
 ·rw [line_none hn] at h;cases h
def txF (t:List UInt8) (a:Nat) (cs:List Chg):Option (List Chg×Nat) :=
 match _h:lineAt t a with
 | none=>none
 | some l=>if l=endF (t.take a) then some (cs,a+l.length+1) else match chgO l with
  | some c=>if cs.length=40 then none else txF t (a+l.length+1) (cs++[c])
  | none=>none
termination_by t.length-a
decreasing_by have:=line_lt (by assumption);omega
structure Hs where
 dt:List Dat
 tx:List (List Chg)
 gd:Nat
def Hs.last (H:Hs):Dat:=H.dt.getD (H.dt.length-1) Dat.zero
def Hs.push (H:Hs) (d:Dat) (l:List Chg) (e:Nat):Hs:=⟨H.dt++[d],H.tx++[l],e⟩
def goodO (s:Sch) (d:Dat) (l:List Chg):Option Dat:=(Dat.all s d l).bind fun e=>if (decide (l.length≤40)&&e.wholeB s)=true then some e else none
def runJ (s:Sch) (t:List UInt8) (a:Nat) (cs:List Chg) (H:Hs):Hs :=
 match _h:lineAt t a with
 | none=>H
 | some l=>if l=endF (t.take a) then (match goodO s H.last cs with
   | some d=>runJ s t (a+l.length+1) [] (H.push d cs (a+l.length+1))
   | none=>H) else match chgO l with
  | some c=>if cs.length=40 then H else runJ s t (a+l.length+1) (cs++[c]) H
  | none=>H
termination_by t.length-a
decreasing_by all_goals have:=line_lt (by assumption);omega
theorem txF_eq {t:List UInt8} {a:Nat} {cs:List Chg}:txF t a cs=(lineAt t a).bind fun l=>if l=endF (t.take a) then some (cs,a+l.length+1) else (chgO l).bind fun c=>if cs.length=40 then none else txF t (a+l.length+1) (cs++[c]):=by
 rw [txF]
 split
 ·rename_i h;rw [h];rfl
 ·rename_i l h
  rw [h,Option.bind_some]
  congr 1
  cases chgO l<;>rfl
theorem runJ_eq {s:Sch} {t:List UInt8} {a:Nat} {cs:List Chg} {H:Hs}:runJ s t a cs H=match lineAt t a with
  | none=>H
  | some l=>if l=endF (t.take a) then (match goodO s H.last cs with
   | some d=>runJ s t (a+l.length+1) [] (H.push d cs (a+l.length+1))
   | none=>H) else match chgO l with
   | some c=>if cs.length=40 then H else runJ s t (a+l.length+1) (cs++[c]) H
   | none=>H:=by
 conv=>lhs;rw [runJ]
 split
 ·rename_i h;rw [h]
 ·rename_i l h;rw [h]
theorem runJ_tx {s:Sch} {t:List UInt8} {H:Hs}:∀ (k a:Nat) (cs:List Chg),t.length-a≤k→runJ s t a cs H=match txF t a cs with
  | none=>H
  | some (l,e)=>match goodO s H.last l with
   | some d=>runJ s t e [] (H.push d l e)
   | none=>H:=by
 intro k
 induction k with
 | zero =>
  intro a cs h
  rw [runJ_eq,txF_eq]
  cases hl:lineAt t a with
  | none=>rfl
  | some l=>have:=line_lt hl;omega
 | succ k ih =>
  intro a cs h
  rw [runJ_eq,txF_eq]
  cases hl:lineAt t a with
  | none=>rfl
  | some l =>
   have:=line_lt hl
   rw [Option.bind_some]
   by_cases he:l=endF (t.take a)
   ·simp only [if_pos he]
   ·simp only [if_neg he]
    cases hc:chgO l with
    | none=>rfl
    | some c =>
     simp only [Option.bind_some]
     by_cases h40:cs.length=40
     ·rw [if_pos h40,if_pos h40]
     ·rw [if_neg h40,if_neg h40,ih _ _ (by omega)]
theorem txF_facts {t:List UInt8}:∀ (k a:Nat) (cs:List Chg),t.length-a≤k→cs.length≤40→∀ l e,txF t a cs=some (l,e)→l.length≤40∧a+6≤e∧e≤t.length:=by
 intro k
 induction k with
 | zero =>
  intro a cs h _ l e he
  rw [txF_eq] at he
  cases hl:lineAt t a with
  | none=>rw [hl] at he;cases he
  | some l=>have:=line_lt hl;omega
 | succ k ih =>
  intro a cs h h40 l e he
  rw [txF_eq] at he
  cases hl:lineAt t a with
  | none=>rw [hl] at he;cases he
  | some ln =>
   have:=line_lt hl
   rw [hl,Option.bind_some] at he
   split at he
   ·rename_i hx
    simp only [Option.some.injEq,Prod.mk.injEq] at he
    obtain ⟨rfl,rfl⟩:=he
    have hp : 5≤ln.length:=by
     rw [hx]
     have:=(itoa_dig (chk7 (t:=t.take a)).1).2
     have:=List.length_pos_iff.2 this
     unfold endF
     simp only [List.length_append,List.length_cons,List.length_nil];omega
    exact ⟨h40,by omega,by omega⟩
   ·cases hc:chgO ln with
    | none=>rw [hc] at he;cases he
    | some c =>
     rw [hc,Option.bind_some] at he
     split at he
     ·cases he
     ·rename_i hn
      have:=ih _ _ (by omega) (by rw [List.length_append];simp;omega) l e he
      omega
end Go.D3
namespace Go.D3
open Go
set_option maxRecDepth 100000
set_option maxHeartbeats 4000000
def txD:Option (List Chg×Nat)→D
 | some (l,e)=>.tup [lst Chg.d Chg.zero l,.int .i64 e,.bool true]
 | none=>.tup [lst Chg.d Chg.zero [],.int .i64 0,.bool false]
theorem txD_nv (o:Option (List Chg×Nat)):(txD o).novw=true:=by
 cases o<;>simp only [txD,D.novw,novwL,nv_lst nv_Chg,Bool.and_self]
def c_impl_journalText_transaction:C := (.seq (.ops [] [⟨none,.asg 2 (.k (.nils (.agg [.int .i64 0,.int .i64 0,.int .i64 0,.int .i64 0])))⟩,⟨none,.asg 3 (.i 0)⟩,⟨none,.asg 4 (.k (.bool false))⟩] []) (.seq (.ops [] [⟨none,.bldS (.agg [.int .i64 0,.int .i64 0,.int .i64 0,.int .i64 0]) 0 []⟩,⟨none,.asg 5 (.t 0)⟩] []) (.block 0 (.loop (.block 1 (.seq (.ops [] [⟨none,.mv (.v 0)⟩,⟨none,.mv (.v 1)⟩,⟨none,.slS (.t 0) (some (.t 1)) none⟩,⟨none,.call 81 [(.t 2),(.k (.str [10]))]⟩,⟨none,.mv (.t 3)⟩,⟨none,.ext 0 (.t 4)⟩,⟨none,.ext 1 (.t 4)⟩,⟨none,.ext 2 (.t 4)⟩,⟨none,.asg 6 (.t 5)⟩,⟨none,.mv (.t 6)⟩,⟨none,.asg 7 (.t 7)⟩] []) (.seq (.opc [] [⟨none,.mv (.v 7)⟩,⟨none,.not (.t 0)⟩] [] (.t 1) (.seq (.ops [] [⟨none,.asg 2 (.k (.nils (.agg [.int .i64 0,.int .i64 0,.int .i64 0,.int .i64 0])))⟩,⟨none,.asg 3 (.i 0)⟩,⟨none,.asg 4 (.k (.bool false))⟩] []) .ret) .skip) (.seq (.opc [] [⟨none,.mv (.v 6)⟩,⟨none,.mv (.v 0)⟩,⟨none,.mv (.v 1)⟩,⟨none,.slS (.t 1) none (some (.t 2))⟩,⟨none,.call 52 [(.t 3)]⟩,⟨none,.call 51 [(.t 4),(.i 10)]⟩,⟨none,.bin .add (.k (.str [101,110,100,32])) (.t 5)⟩,⟨none,.bin .eql (.t 0) (.t 6)⟩] [] (.t 7) (.seq (.ops [] [⟨none,.mv (.v 5)⟩,⟨none,.mv (.v 1)⟩,⟨none,.mv (.v 6)⟩,⟨none,.lenS (.t 2)⟩,⟨none,.bin .add (.t 1) (.t 3)⟩,⟨none,.bin .add (.t 4) (.i 1)⟩,⟨none,.asg 2 (.t 0)⟩,⟨none,.asg 3 (.t 5)⟩,⟨none,.asg 4 (.k (.bool true))⟩] []) .ret) .skip) (.seq (.ops [8] [⟨none,.mv (.v 6)⟩,⟨none,.call 84 [(.t 0)]⟩,⟨none,.mv (.t 1)⟩,⟨none,.ext 0 (.t 2)⟩,⟨none,.ext 1 (.t 2)⟩,⟨none,.alc [.int .i64 0,.int .i64 0,.int .i64 0,.int .i64 0]⟩,⟨none,.stn 4 (.t 5) (.t 3)⟩,⟨none,.asg 9 (.t 4)⟩] [(8,5)]) (.seq (.opc [] [⟨none,.mv (.v 9)⟩,⟨none,.not (.t 0)⟩,⟨none,.mv (.t 1)⟩,⟨some (2,false),.mv (.v 5)⟩,⟨some (2,false),.len (.t 3)⟩,⟨some (2,false),.bin .eql (.t 4) (.i 40)⟩,⟨none,.pick (.t 2) (.k (.bool true)) (.t 5)⟩] [] (.t 6) (.seq (.ops [] [⟨none,.asg 2 (.k (.nils (.agg [.int .i64 0,.int .i64 0,.int .i64 0,.int .i64 0])))⟩,⟨none,.asg 3 (.i 0)⟩,⟨none,.asg 4 (.k (.bool false))⟩] []) .ret) .skip) (.seq (.ops [] [⟨none,.mv (.v 5)⟩,⟨none,.lda 4 (.v 8)⟩,⟨none,.bldS (.agg [.int .i64 0,.int .i64 0,.int .i64 0,.int .i64 0]) 1 [(0,(.t 1))]⟩,⟨none,.app 4 32 (.t 0) (.t 2)⟩,⟨none,.asg 5 (.t 3)⟩] []) (.ops [] [⟨none,.mv (.v 1)⟩,⟨none,.mv (.v 6)⟩,⟨none,.lenS (.t 1)⟩,⟨none,.bin .add (.t 2) (.i 1)⟩,⟨none,.bin .add (.t 0) (.t 3)⟩,⟨none,.asg 1 (.t 4)⟩] []))))))))))))
def tr_impl_journalText_transaction:List Nat:=[0,1,4,5,6,7,8,10,11,12]
def rs_impl_journalText_transaction:List RS:=[.t 2,.t 3,.t 4]
theorem ok_impl_journalText_transaction:fnOk Go.Proofs.Tryz.prog Go.Proofs.Tryz.f64 tr_impl_journalText_transaction c_impl_journalText_transaction 2 rs_impl_journalText_transaction=true:=by decide +kernel
theorem ret_impl_journalText_transaction (t:List UInt8) (a0:Nat) (ht:t.length≤4294966000) (ha0:a0≤t.length):Ret Go.Proofs.Tryz.prog 64 [.v (.str t),.v (.int .i64 a0)] (txD (txF t a0 [])):=by
 refine ret_fn Go.Proofs.Tryz.func64 ok_impl_journalText_transaction rfl (show 2<500 by decide) rfl ?_;unfold c_impl_journalText_transaction tr_impl_journalText_transaction rs_impl_journalText_transaction;simp only [go_sem,Nat.reduceLT,Nat.reduceAdd,Nat.reduceSub,↓reduceIte]
 refine loop_set [6,7,8,9] (fun (p:Nat×List Chg)=>[(1,.int .i64 p.1),(5,.o (lst Chg.d Chg.zero p.2))]) (fun p=>p.1≤t.length∧p.2.length≤40∧txF t p.1 p.2=txF t a0 []) (fun p=>t.length-p.1) (a0,[]) (by simp only [go_sem,Nat.reduceLT,↓reduceIte];rfl) ⟨ha0,Nat.zero_le _,rfl⟩ rfl ?_
 rintro ⟨a,cs⟩ ⟨ha,h40,hx⟩
 simp only at ha h40 hx
 rw [← hx]
 rw [txF_eq] at hx ⊢
 simp only [go_sem,Nat.reduceLT,Nat.reduceAdd,Nat.reduceSub,↓reduceIte]
 refine ⟨⟨ha,Nat.le_refl _⟩,?_⟩
 rw [List.take_of_length_le (Nat.le_refl _)]
 refine call_of (ret_cut (by rw [List.length_drop];omega)) rfl (.inl rfl) ?_
 have hla:lineAt t a=if (Lib.cut (t.drop a) [10]).2.2=true then some (Lib.cut (t.drop a) [10]).1 else none:=rfl
 generalize Lib.cut (t.drop a) [10]=c at hla
 simp only [go_sem,Nat.reduceLT,Nat.reduceAdd,Nat.reduceSub,↓reduceIte]
 refine ⟨fun h=>?_,fun h=>⟨⟨by omega,by omega⟩,?_⟩⟩
 ·have h:c.2.2=false:=by simpa using h
  rw [hla,if_neg (by rw [h];decide)];rfl
 ·have h:c.2.2=true:=by simpa using h
  rw [if_pos h] at hla
  have hlt:=line_lt hla
  rw [hla,Option.bind_some] at hx ⊢
  refine call_of (ret_impl_check _) rfl (.inl rfl) ?_
  simp only [go_sem,Nat.reduceLT,Nat.reduceAdd,Nat.reduceSub,↓reduceIte]
  refine call_of ret_itoa rfl (.inl rfl) ?_
  simp only [go_sem,Nat.reduceLT,Nat.reduceAdd,Nat.reduceSub,Nat.reduceBEq,↓reduceIte]
  have hk:=chk7 (t:=t.take a)
  have:=itoa_len hk.1 (by omega)
  have hend:endF (t.take a)=101::110::100::32::Lib.itoa (chkF 7 (t.take a)):=rfl
  refine ⟨by simp only [maxLen];omega,fun h1=>?_,fun h1=>?_⟩
  ·rw [if_pos (by rw [hend];exact h1),wrap_small (n:=(a:Int)+c.1.length) (by omega) (by omega),wrap_small (by omega) (by omega)]
   rfl
  ·have hne:¬ c.1=endF (t.take a):=by rw [hend];simpa using h1
   rw [if_neg hne] at hx ⊢
   refine call_of (ret_impl_parseChange c.1 (by omega)) rfl (.inl (chgD_nv _)) ?_
   cases hc:chgO c.1 with
   | none =>
    simp only [chgD]
    simp only [go_sem,Nat.reduceLT,Nat.reduceAdd,Nat.reduceSub,Nat.reduceBEq,Nat.reduceLeDiff,↓reduceIte]
    rfl
   | some x =>
    rw [hc,Option.bind_some] at hx
    simp only [chgD]
    simp only [go_sem,Nat.reduceLT,Nat.reduceAdd,Nat.reduceSub,Nat.reduceBEq,Nat.reduceLeDiff,↓reduceIte]
    refine ⟨fun h2=>by rw [if_pos (by omega)];rfl,fun h2=>⟨by omega,(a+c.1.length+1,cs++[x]),⟨by show a+c.1.length+1≤_;omega,?_,?_⟩,by show t.length-(a+c.1.length+1)<_;omega,?_⟩⟩
    all_goals have h2:cs.length≠40:=by rintro h3;rw [h3] at h2;cases h2
    ·show (cs++[x]).length≤40
     simp only [List.length_append,List.length_cons,List.length_nil];omega
    ·rw [if_neg h2]
    ·rw [wrap_small (n:=(c.1.length:Int)+1) (by omega) (by omega),wrap_small (by omega) (by omega)]
     show _=[_,D.int .i64 ((a+c.1.length+1:Nat):Int),_,_,_,_,_,_,_,_]
     rw [show (a:Int)+((c.1.length:Int)+1)=((a+c.1.length+1:Nat):Int) by omega]
end Go.D3
namespace Go.D3
open Go
theorem all_ok {s:Sch} (hs:SOk s):∀ {l:List Chg} {d e:Dat},DOk s d→Dat.all s d l=some e→DOk s e
 | [],d,e,h,ha=>by cases ha;exact h
 | c::l,d,e,h,ha=>by
  rw [Dat.all] at ha
  split at ha
  ·rename_i hc
   exact all_ok hs (h.app hs hc) ha
  ·cases ha
theorem good_all {s:Sch} {d e:Dat} {l:List Chg} (h:goodO s d l=some e):Dat.all s d l=some e∧l.length≤40∧e.wholeB s=true:=by
 unfold goodO at h
 rw [Option.bind_eq_some_iff] at h
 obtain ⟨x,h1,h2⟩:=h
 split at h2
 ·rename_i hc
  injection h2 with h2
  subst h2
  rw [Bool.and_eq_true,decide_eq_true_eq] at hc
  exact ⟨h1,hc⟩
 ·cases h2
def noD (s:Sch):Dat:=⟨List.replicate s.nd.toNat 0,List.replicate s.fr.length []⟩
theorem rep_getD {α:Type} {n i:Nat} {x:α}:(List.replicate n x).getD i x=x:=by
 rw [List.getD_eq_getElem?_getD,List.getElem?_replicate]
 split<;>rfl
theorem noD_ok {s:Sch} (hs:SOk s):DOk s (noD s):=by
 have h0:=hs.n0
 refine ⟨?_,?_,fun i _=>?_,fun e _=>?_,fun e i _ hi=>?_⟩
 ·simp only [noD,List.length_replicate];omega
 ·simp only [noD,List.length_replicate]
 ·simp only [noD,rep_getD];omega
 ·simp only [noD,rep_getD];rfl
 ·simp only [noD,rep_getD] at hi;exact absurd hi (Nat.not_lt_zero _)
def Dat.nn (d:Dat):Prop:=∀ e i,e<d.mp.length→i<(d.mp.getD e []).length→0≤(d.mp.getD e []).getD i 0
theorem noD_nn {s:Sch}:(noD s).nn:=fun e i _ hi=>by
 simp only [noD,rep_getD] at hi;exact absurd hi (Nat.not_lt_zero _)
theorem whole_nn {s:Sch} {d:Dat} (h:d.wholeB s=true):d.nn:=fun e i he hi=>by
 unfold Dat.wholeB at h
 rw [Bool.and_eq_true] at h
 have hr:=(rows_get h.1).2.2.2 e he
 exact (mapB_get hr.2 hi).1
structure HOk (s:Sch) (t:List UInt8) (H:Hs):Prop where
 dl:H.dt.length=H.tx.length+1
 dok:∀ d∈H.dt,DOk s d
 nn:∀ d∈H.dt,d.nn
 tl:∀ l∈H.tx,l.length≤40
 t6 : 6*H.tx.length≤H.gd
 gl:H.gd≤t.length
theorem HOk.last {s:Sch} {t:List UInt8} {H:Hs} (h:HOk s t H):DOk s H.last:=by
 have:=h.dl
 refine h.dok _ ?_
 unfold Hs.last
 rw [getD_lt (by omega)]
 exact List.getElem_mem _
theorem HOk.last_nn {s:Sch} {t:List UInt8} {H:Hs} (h:HOk s t H):H.last.nn:=by
 have:=h.dl
 refine h.nn _ ?_
 unfold Hs.last
 rw [getD_lt (by omega)]
 exact List.getElem_mem _
theorem HOk.push {s:Sch} {t:List UInt8} {H:Hs} {d:Dat} {l:List Chg} {e:Nat} (hs:SOk s) (h:HOk s t H) (hg:goodO s H.last l=some d) (h6:H.gd+6≤e) (he:e≤t.length):HOk s t (H.push d l e):=by
 obtain ⟨g1,g2,g3⟩:=good_all hg
 have h1:=h.t6
 refine ⟨?_,fun x hx=>?_,fun x hx=>?_,fun x hx=>?_,?_,he⟩
 ·have:=h.dl
  simp only [Hs.push,List.length_append,List.length_cons,List.length_nil];omega
 ·rcases List.mem_append.1 hx with hx | hx
  ·exact h.dok x hx
  ·rw [List.mem_singleton] at hx
   subst hx
   exact all_ok hs h.last g1
 ·rcases List.mem_append.1 hx with hx | hx
  ·exact h.nn x hx
  ·rw [List.mem_singleton] at hx
   subst hx
   exact whole_nn g3
 ·rcases List.mem_append.1 hx with hx | hx
  ·exact h.tl x hx
  ·rw [List.mem_singleton] at hx
   subst hx
   exact g2
 ·show 6*(H.tx++[l]).length≤e
  simp only [List.length_append,List.length_cons,List.length_nil];omega
theorem endF_5 {x:List UInt8} : 5≤(endF x).length:=by
 have:=(itoa_dig (chk7 (t:=x)).1).2
 have:=List.length_pos_iff.2 this
 unfold endF
 simp only [List.length_append,List.length_cons,List.length_nil];omega
theorem runJ_ok {s:Sch} {t:List UInt8} (hs:SOk s):∀ (k a:Nat) (cs:List Chg) (H:Hs),t.length-a≤k→HOk s t H→H.gd≤a→HOk s t (runJ s t a cs H):=by
 intro k
 induction k with
 | zero =>
  intro a cs H hk h _
  rw [runJ_eq]
  cases hl:lineAt t a with
  | none=>exact h
  | some l=>have:=line_lt hl;omega
 | succ k ih =>
  intro a cs H hk h hg
  rw [runJ_eq]
  cases hl:lineAt t a with
  | none=>exact h
  | some l =>
   have h1:=line_lt hl
   dsimp only
   split
   ·rename_i he
    have h5:=endF_5 (x:=t.take a)
    rw [← he] at h5
    cases hgo:goodO s H.last cs with
    | none=>exact h
    | some d=>exact ih _ _ _ (by omega) (h.push hs hgo (by omega) (by omega)) (Nat.le_refl _)
   ·cases chgO l with
    | none=>exact h
    | some c =>
     dsimp only
     split
     ·exact h
     ·exact ih _ _ _ (by omega) h (by omega)
theorem head_ok {t:List UInt8} {p:Sch×Nat} (h:headF t=some p):p.1.ok=true∧p.2≤t.length:=by
 unfold headF at h
 split at h
 ·rename_i hc
  rw [Option.map_eq_some_iff] at h
  obtain ⟨s,h1,rfl⟩:=h
  refine ⟨(psO_ok h1).1,?_⟩
  rcases nl_first (t:=t) (a:=0) with ⟨i,h1,h2,h3,h4⟩ | hn
  ·rw [cut_at (fun j hj=>h4 j (Nat.zero_le _) hj) h2 h3]
   show (t.take i).length+1≤_
   rw [List.length_take];omega
  ·rw [cut_end fun j hj=>hn j (Nat.zero_le _) hj] at hc
   cases hc
 ·cases h
noncomputable def resJ (t:List UInt8):Option (Sch×Hs):=(headF t).map fun p=>(p.1,runJ p.1 t p.2 [] ⟨[noD p.1],[],p.2⟩)
theorem hs0_ok {t:List UInt8} {s:Sch} {n:Nat} (hs:SOk s) (hn:n≤t.length):HOk s t ⟨[noD s],[],n⟩:=by
 refine ⟨rfl,fun d hd=>?_,fun d hd=>?_,(fun l hl=>by cases hl),Nat.zero_le _,hn⟩
 ·rw [List.mem_singleton] at hd
  subst hd
  exact noD_ok hs
 ·rw [List.mem_singleton] at hd
  subst hd
  exact noD_nn
theorem resJ_ok {t:List UInt8} {p:Sch×Hs} (h:resJ t=some p):p.1.ok=true∧HOk p.1 t p.2:=by
 unfold resJ at h
 rw [Option.map_eq_some_iff] at h
 obtain ⟨q,h1,rfl⟩:=h
 obtain ⟨h2,h3⟩:=head_ok h1
 have hs:=sok_of (ok_len h2).1
 exact ⟨h2,runJ_ok hs _ _ _ _ (Nat.le_refl _) (hs0_ok hs h3) (Nat.le_refl _)⟩
end Go.D3
namespace Go.D3
open Go
set_option maxRecDepth 100000
set_option maxHeartbeats 4000000
def hiC (s:Sch) (dt:List Dat) (tx:List (List Chg)) (g:Nat):List D:=[.int .i64 s.nd,ints s.fr,ints s.to,lst Pth.d Pth.zero s.lf,lst Pth.d Pth.zero s.rt,lst Dat.d Dat.zero dt,lst (lst Chg.d Chg.zero) [] tx,.int .i64 g]
def c_impl_history_now:C := (.seq (.ops [1] [⟨none,.alc [.nils (.int .i64 0),.nils (ints [])]⟩] [(1,0)]) (.seq (.ops [] [⟨none,.mv (.v 0)⟩,⟨none,.nck (.t 0)⟩,⟨none,.fA 5 (.t 1)⟩,⟨none,.ld (.t 2)⟩,⟨none,.mv (.v 0)⟩,⟨none,.nck (.t 4)⟩,⟨none,.fA 5 (.t 5)⟩,⟨none,.ld (.t 6)⟩,⟨none,.len (.t 7)⟩,⟨none,.bin .sub (.t 8) (.i 1)⟩,⟨none,.idxA 2 (.t 3) (.t 9)⟩,⟨none,.lda 2 (.t 10)⟩,⟨none,.stR 2 (.v 1) (.t 11)⟩] []) .ret))
def tr_impl_history_now:List Nat:=[0,2]
def rs_impl_history_now:List RS:=[.c 1 2 true]
theorem ok_impl_history_now:fnOk Go.Proofs.Tryz.prog Go.Proofs.Tryz.f29 tr_impl_history_now c_impl_history_now 1 rs_impl_history_now=true:=by decide +kernel
theorem ret_impl_history_now (s:Sch) (dt:List Dat) (tx:List (List Chg)) (g:Nat) (h : 0<dt.length) (hl:dt.length≤4294966000):RetG Go.Proofs.Tryz.prog 29 [.adr 0 [(0,0)]] [.o (.ptr (hiC s dt tx g))] (.agg [.sub 0 [(0,5),(dt.length-1,0)],.sub 0 [(0,5),(dt.length-1,1)]]) [.o (.ptr (hiC s dt tx g))]:=by
 unfold hiC
 refine ret_fnG .refs Go.Proofs.Tryz.func29 rfl ok_impl_history_now rfl ⟨by simp only [List.length_cons,List.length_nil];decide,by simp only [List.length_cons,List.length_nil];decide⟩ rfl ?_;unfold c_impl_history_now tr_impl_history_now rs_impl_history_now;simp only [go_sem,Nat.reduceLT,Nat.reduceAdd,Nat.reduceSub,Nat.reduceBEq,Nat.reduceLeDiff,↓reduceIte]
 have hw:IntKind.i64.wrap ((dt.length:Int)-1)=((dt.length-1:Nat):Int):=by rw [wrap_small (by omega) (by omega)];omega
 rw [hw,Int.toNat_natCast]
 exact ⟨⟨by omega,by omega⟩,by omega,rfl⟩
def hiB (s:Sch) (dt:List Dat) (tx:List (List Chg)) (g:Nat):List D:=[.int .i64 s.nd,.o (ints s.fr),.o (ints s.to),.o (lst Pth.d Pth.zero s.lf),.o (lst Pth.d Pth.zero s.rt),.o (lst Dat.d Dat.zero dt),.o (lst (lst Chg.d Chg.zero) [] tx),.int .i64 g]
theorem ret_nowB (s:Sch) (dt:List Dat) (tx:List (List Chg)) (g:Nat) (h : 0<dt.length) (hl:dt.length≤4294966000):RetG Go.Proofs.Tryz.prog 29 [.adr 0 [(0,0)]] [.box (hiB s dt tx g)] (.agg [.sub 0 [(0,5),(dt.length-1,0)],.sub 0 [(0,5),(dt.length-1,1)]]) [.box (hiB s dt tx g)]:=by
 unfold hiB
 refine ret_fnG .refs Go.Proofs.Tryz.func29 rfl ok_impl_history_now rfl ⟨by simp only [List.length_cons,List.length_nil];decide,by simp only [List.length_cons,List.length_nil];decide⟩ rfl ?_;unfold c_impl_history_now tr_impl_history_now rs_impl_history_now;simp only [go_sem,Nat.reduceLT,Nat.reduceAdd,Nat.reduceSub,Nat.reduceBEq,Nat.reduceLeDiff,↓reduceIte]
 have hw:IntKind.i64.wrap ((dt.length:Int)-1)=((dt.length-1:Nat):Int):=by rw [wrap_small (by omega) (by omega)];omega
 rw [hw,Int.toNat_natCast]
 exact ⟨⟨by omega,by omega⟩,by omega,rfl⟩
end Go.D3
namespace Go.D3
open Go
def wk1 (a d:D):Prop:=a=d∨∃ n l,d=.ptr l∧a=.ptr (l.take n)
def wkL:List D→List D→Prop
 | [],[]=>True
 | a::xs,d::ds=>wk1 a d∧wkL xs ds
 | _,_=>False
theorem Rd.wk {w:World} {A:Nat→Prop} {v:Value} {a d:D} (h:Rd w A v d) (hw:wk1 a d):Rd w A v a:=by
 rcases hw with rfl | ⟨n,l,rfl,rfl⟩
 ·exact h
 ·cases h with
  | ptr hA vs hc hr =>
   have key:∀ (j:Nat) (x:D),(l.take n)[j]?=some x→l[j]?=some x:=fun j x hx=>by
    rw [List.getElem?_take] at hx
    split at hx
    ·exact hx
    ·cases hx
   exact .ptr hA vs (fun j x hx=>hc j x (key j x hx)) fun j x hx=>hr j x (key j x hx)
theorem wkL_len:∀ {xs ds:List D},wkL xs ds→xs.length=ds.length
 | [],[],_=>rfl
 | _::_,_::_,h=>by simp only [List.length_cons,wkL_len h.2]
 | [],_::_,h=>h.elim
 | _::_,[],h=>h.elim
theorem wkL_get:∀ {xs ds:List D},wkL xs ds→∀ {j:Nat} {a:D},xs[j]?=some a→∃ d,ds[j]?=some d∧wk1 a d
 | [],_,_,j,a,hj=>by simp at hj
 | x::r,y::s,h,0,a,hj=>by
  simp only [List.getElem?_cons_zero,Option.some.injEq] at hj
  exact ⟨y,rfl,hj▸h.1⟩
 | x::r,y::s,h,j+1,a,hj=>by
  simp only [List.getElem?_cons_succ] at hj ⊢
  exact wkL_get h.2 hj
 | _::_,[],h,_,_,_=>h.elim
theorem ret_wk {P:Program} {f:FuncId} {xs ds:List D} {res:D} (h:Ret P f (xs.map .v) res) (hw:wkL xs ds):Ret P f (ds.map .v) res:=by
 intro w A vs Fs h0 h1 h2 h3 h4 h5
 have hl:=wkL_len hw
 refine (h w A vs Fs h0 h1 (by rw [h2];simp [hl]) (fun j a hj=>?_) h4 fun j b hb=>⟨(h5 j b hb).1,(h5 j b hb).2.1,by simpa [hl] using (h5 j b hb).2.2⟩).mono ?_
 ·rw [List.getElem?_map,Option.map_eq_some_iff] at hj
  obtain ⟨x,hx,rfl⟩:=hj
  obtain ⟨d,hd,hwd⟩:=wkL_get hw hx
  have:=h3 j (.v d) (by rw [List.getElem?_map,hd];rfl)
  exact ⟨this.1.wk hwd,this.2⟩
 ·rintro e w' ⟨v,F,Fs',e1,e2,e3,e4,e5,e6,e7⟩
  refine ⟨v,F,Fs',e1,e2,e3,fun j a hj=>?_,e5,fun j b hb=>⟨(e6 j b hb).1,(e6 j b hb).2.1,by simpa [hl] using (e6 j b hb).2.2⟩,e7⟩
  rw [List.getElem?_map,Option.map_eq_some_iff] at hj
  obtain ⟨d,hd,rfl⟩:=hj
  have hj2:j<xs.length:=by rw [hl];exact (List.getElem?_eq_some_iff.1 hd).1
  exact e4 j (.v xs[j]) (by rw [List.getElem?_map,List.getElem?_eq_getElem hj2];rfl)
theorem call_wk {P:Program} {f:FuncId} {pl:Prop} {K:St→Prop} {st:St} {xs:List Arg} {bs ds:List D} {res:D} (hR:Ret P f xs res) (ha:xs=bs.map .v) (hw:wkL bs ds) (hn:res.novw=true∨pl) (hK:K (st.push (contOf res))):@callVC P f (some ds) true pl none ⟨K⟩ st :=
 call_of (ret_wk (ha▸hR) hw) rfl hn hK
end Go.D3
namespace Go.D3
open Go
set_option maxRecDepth 100000
set_option maxHeartbeats 4000000
def tailC:Nat→Code→Code
 | 0,c=>c
 | n+1,.seq _ b=>tailC n b
 | _+1,c=>c
def c_impl_journalText_read_1:C := (.alt [] (.two 0 2 [1,2,0,3,4,5,6,7,8,9,10,11] (.two 6 9 [0,1,2,3,4,5,7,8,9,6,10,11] (.two 5 9 [0,1,2,3,4,6,7,8,9,5,10,11] (.leaf [⟨none,.ld (.v 1)⟩,⟨none,.mv (.v 0)⟩,⟨none,.dyn (.k (.fn 62 [])) [(.t 1)]⟩,⟨none,.mv (.t 2)⟩,⟨none,.ext 0 (.t 3)⟩,⟨none,.ext 1 (.t 3)⟩,⟨none,.ext 2 (.t 3)⟩,⟨none,.nck (.t 0)⟩,⟨none,.fA 0 (.t 7)⟩,⟨none,.stn 5 (.t 8) (.t 4)⟩,⟨none,.st (.v 3) (.t 5)⟩,⟨none,.asg 2 (.t 6)⟩] []) (.leaf [⟨none,.ld (.v 1)⟩,⟨none,.mv (.v 0)⟩,⟨none,.dyn (.k (.fn 62 [])) [(.t 1)]⟩,⟨none,.mv (.t 2)⟩,⟨none,.ext 0 (.t 3)⟩,⟨none,.ext 2 (.t 3)⟩,⟨none,.nck (.t 0)⟩,⟨none,.fA 0 (.t 6)⟩,⟨none,.stn 5 (.t 7) (.t 4)⟩,⟨none,.ext 1 (.t 3)⟩,⟨none,.st (.v 3) (.t 9)⟩,⟨none,.asg 2 (.t 5)⟩] [])) (.two 5 8 [0,1,2,3,4,6,7,8,5,9,10,11] (.two 9 10 [0,1,2,3,4,5,6,7,8,10,9,11] (.leaf [⟨none,.ld (.v 1)⟩,⟨none,.mv (.v 0)⟩,⟨none,.dyn (.k (.fn 62 [])) [(.t 1)]⟩,⟨none,.mv (.t 2)⟩,⟨none,.ext 0 (.t 3)⟩,⟨none,.ext 1 (.t 3)⟩,⟨none,.nck (.t 0)⟩,⟨none,.fA 0 (.t 6)⟩,⟨none,.stn 5 (.t 7) (.t 4)⟩,⟨none,.ext 2 (.t 3)⟩,⟨none,.st (.v 3) (.t 5)⟩,⟨none,.asg 2 (.t 9)⟩] []) (.leaf [⟨none,.ld (.v 1)⟩,⟨none,.mv (.v 0)⟩,⟨none,.dyn (.k (.fn 62 [])) [(.t 1)]⟩,⟨none,.mv (.t 2)⟩,⟨none,.ext 0 (.t 3)⟩,⟨none,.ext 1 (.t 3)⟩,⟨none,.nck (.t 0)⟩,⟨none,.fA 0 (.t 6)⟩,⟨none,.stn 5 (.t 7) (.t 4)⟩,⟨none,.st (.v 3) (.t 5)⟩,⟨none,.ext 2 (.t 3)⟩,⟨none,.asg 2 (.t 10)⟩] [])) (.two 9 10 [0,1,2,3,4,5,6,7,8,10,9,11] (.leaf [⟨none,.ld (.v 1)⟩,⟨none,.mv (.v 0)⟩,⟨none,.dyn (.k (.fn 62 [])) [(.t 1)]⟩,⟨none,.mv (.t 2)⟩,⟨none,.ext 0 (.t 3)⟩,⟨none,.nck (.t 0)⟩,⟨none,.fA 0 (.t 5)⟩,⟨none,.stn 5 (.t 6) (.t 4)⟩,⟨none,.ext 1 (.t 3)⟩,⟨none,.ext 2 (.t 3)⟩,⟨none,.st (.v 3) (.t 8)⟩,⟨none,.asg 2 (.t 9)⟩] []) (.leaf [⟨none,.ld (.v 1)⟩,⟨none,.mv (.v 0)⟩,⟨none,.dyn (.k (.fn 62 [])) [(.t 1)]⟩,⟨none,.mv (.t 2)⟩,⟨none,.ext 0 (.t 3)⟩,⟨none,.nck (.t 0)⟩,⟨none,.fA 0 (.t 5)⟩,⟨none,.stn 5 (.t 6) (.t 4)⟩,⟨none,.ext 1 (.t 3)⟩,⟨none,.st (.v 3) (.t 8)⟩,⟨none,.ext 2 (.t 3)⟩,⟨none,.asg 2 (.t 10)⟩] [])))) (.two 6 9 [0,1,2,3,4,5,7,8,9,6,10,11] (.two 5 9 [0,1,2,3,4,6,7,8,9,5,10,11] (.leaf [⟨none,.mv (.v 0)⟩,⟨none,.dyn (.k (.fn 62 [])) [(.t 0)]⟩,⟨none,.ld (.v 1)⟩,⟨none,.mv (.t 1)⟩,⟨none,.ext 0 (.t 3)⟩,⟨none,.ext 1 (.t 3)⟩,⟨none,.ext 2 (.t 3)⟩,⟨none,.nck (.t 2)⟩,⟨none,.fA 0 (.t 7)⟩,⟨none,.stn 5 (.t 8) (.t 4)⟩,⟨none,.st (.v 3) (.t 5)⟩,⟨none,.asg 2 (.t 6)⟩] []) (.leaf [⟨none,.mv (.v 0)⟩,⟨none,.dyn (.k (.fn 62 [])) [(.t 0)]⟩,⟨none,.ld (.v 1)⟩,⟨none,.mv (.t 1)⟩,⟨none,.ext 0 (.t 3)⟩,⟨none,.ext 2 (.t 3)⟩,⟨none,.nck (.t 2)⟩,⟨none,.fA 0 (.t 6)⟩,⟨none,.stn 5 (.t 7) (.t 4)⟩,⟨none,.ext 1 (.t 3)⟩,⟨none,.st (.v 3) (.t 9)⟩,⟨none,.asg 2 (.t 5)⟩] [])) (.two 5 8 [0,1,2,3,4,6,7,8,5,9,10,11] (.two 9 10 [0,1,2,3,4,5,6,7,8,10,9,11] (.leaf [⟨none,.mv (.v 0)⟩,⟨none,.dyn (.k (.fn 62 [])) [(.t 0)]⟩,⟨none,.ld (.v 1)⟩,⟨none,.mv (.t 1)⟩,⟨none,.ext 0 (.t 3)⟩,⟨none,.ext 1 (.t 3)⟩,⟨none,.nck (.t 2)⟩,⟨none,.fA 0 (.t 6)⟩,⟨none,.stn 5 (.t 7) (.t 4)⟩,⟨none,.ext 2 (.t 3)⟩,⟨none,.st (.v 3) (.t 5)⟩,⟨none,.asg 2 (.t 9)⟩] []) (.leaf [⟨none,.mv (.v 0)⟩,⟨none,.dyn (.k (.fn 62 [])) [(.t 0)]⟩,⟨none,.ld (.v 1)⟩,⟨none,.mv (.t 1)⟩,⟨none,.ext 0 (.t 3)⟩,⟨none,.ext 1 (.t 3)⟩,⟨none,.nck (.t 2)⟩,⟨none,.fA 0 (.t 6)⟩,⟨none,.stn 5 (.t 7) (.t 4)⟩,⟨none,.st (.v 3) (.t 5)⟩,⟨none,.ext 2 (.t 3)⟩,⟨none,.asg 2 (.t 10)⟩] [])) (.two 9 10 [0,1,2,3,4,5,6,7,8,10,9,11] (.leaf [⟨none,.mv (.v 0)⟩,⟨none,.dyn (.k (.fn 62 [])) [(.t 0)]⟩,⟨none,.ld (.v 1)⟩,⟨none,.mv (.t 1)⟩,⟨none,.ext 0 (.t 3)⟩,⟨none,.nck (.t 2)⟩,⟨none,.fA 0 (.t 5)⟩,⟨none,.stn 5 (.t 6) (.t 4)⟩,⟨none,.ext 1 (.t 3)⟩,⟨none,.ext 2 (.t 3)⟩,⟨none,.st (.v 3) (.t 8)⟩,⟨none,.asg 2 (.t 9)⟩] []) (.leaf [⟨none,.mv (.v 0)⟩,⟨none,.dyn (.k (.fn 62 [])) [(.t 0)]⟩,⟨none,.ld (.v 1)⟩,⟨none,.mv (.t 1)⟩,⟨none,.ext 0 (.t 3)⟩,⟨none,.nck (.t 2)⟩,⟨none,.fA 0 (.t 5)⟩,⟨none,.stn 5 (.t 6) (.t 4)⟩,⟨none,.ext 1 (.t 3)⟩,⟨none,.st (.v 3) (.t 8)⟩,⟨none,.ext 2 (.t 3)⟩,⟨none,.asg 2 (.t 10)⟩] []))))))
def c_impl_journalText_read_2:C := (.alt [7] (.two 1 2 [0,2,1,3,4,5,6,7,8,9,10,11,12] (.two 1 10 [0,5,10,1,2,3,4,6,7,8,9,11,12] (.two 9 11 [0,1,2,3,4,5,6,7,8,10,11,9,12] (.leaf [⟨none,.mv (.v 4)⟩,⟨none,.ld (.v 1)⟩,⟨none,.dyn (.k (.fn 29 [])) [(.t 1)]⟩,⟨none,.ld (.v 1)⟩,⟨none,.nck (.t 3)⟩,⟨none,.fA 0 (.t 4)⟩,⟨none,.call 39 [(.t 2),(.t 5),(.t 0)]⟩,⟨none,.mv (.t 6)⟩,⟨none,.ext 0 (.t 7)⟩,⟨none,.ext 1 (.t 7)⟩,⟨none,.alc [.nils (.int .i64 0),.nils (ints [])]⟩,⟨none,.stn 2 (.t 10) (.t 8)⟩,⟨none,.asg 8 (.t 9)⟩] [(7,10)]) (.leaf [⟨none,.mv (.v 4)⟩,⟨none,.ld (.v 1)⟩,⟨none,.dyn (.k (.fn 29 [])) [(.t 1)]⟩,⟨none,.ld (.v 1)⟩,⟨none,.nck (.t 3)⟩,⟨none,.fA 0 (.t 4)⟩,⟨none,.call 39 [(.t 2),(.t 5),(.t 0)]⟩,⟨none,.mv (.t 6)⟩,⟨none,.ext 0 (.t 7)⟩,⟨none,.alc [.nils (.int .i64 0),.nils (ints [])]⟩,⟨none,.stn 2 (.t 9) (.t 8)⟩,⟨none,.ext 1 (.t 7)⟩,⟨none,.asg 8 (.t 11)⟩] [(7,9)])) (.two 10 11 [0,1,2,3,4,5,6,7,8,9,11,10,12] (.leaf [⟨none,.mv (.v 4)⟩,⟨none,.ld (.v 1)⟩,⟨none,.alc [.nils (.int .i64 0),.nils (ints [])]⟩,⟨none,.dyn (.k (.fn 29 [])) [(.t 1)]⟩,⟨none,.ld (.v 1)⟩,⟨none,.nck (.t 4)⟩,⟨none,.fA 0 (.t 5)⟩,⟨none,.call 39 [(.t 3),(.t 6),(.t 0)]⟩,⟨none,.mv (.t 7)⟩,⟨none,.ext 0 (.t 8)⟩,⟨none,.ext 1 (.t 8)⟩,⟨none,.stn 2 (.t 2) (.t 9)⟩,⟨none,.asg 8 (.t 10)⟩] [(7,2)]) (.leaf [⟨none,.mv (.v 4)⟩,⟨none,.ld (.v 1)⟩,⟨none,.alc [.nils (.int .i64 0),.nils (ints [])]⟩,⟨none,.dyn (.k (.fn 29 [])) [(.t 1)]⟩,⟨none,.ld (.v 1)⟩,⟨none,.nck (.t 4)⟩,⟨none,.fA 0 (.t 5)⟩,⟨none,.call 39 [(.t 3),(.t 6),(.t 0)]⟩,⟨none,.mv (.t 7)⟩,⟨none,.ext 0 (.t 8)⟩,⟨none,.stn 2 (.t 2) (.t 9)⟩,⟨none,.ext 1 (.t 8)⟩,⟨none,.asg 8 (.t 11)⟩] [(7,2)]))) (.two 2 3 [0,1,3,2,4,5,6,7,8,9,10,11,12] (.two 2 10 [0,1,5,10,2,3,4,6,7,8,9,11,12] (.two 9 11 [0,1,2,3,4,5,6,7,8,10,11,9,12] (.leaf [⟨none,.mv (.v 4)⟩,⟨none,.ld (.v 1)⟩,⟨none,.ld (.v 1)⟩,⟨none,.dyn (.k (.fn 29 [])) [(.t 1)]⟩,⟨none,.nck (.t 2)⟩,⟨none,.fA 0 (.t 4)⟩,⟨none,.call 39 [(.t 3),(.t 5),(.t 0)]⟩,⟨none,.mv (.t 6)⟩,⟨none,.ext 0 (.t 7)⟩,⟨none,.ext 1 (.t 7)⟩,⟨none,.alc [.nils (.int .i64 0),.nils (ints [])]⟩,⟨none,.stn 2 (.t 10) (.t 8)⟩,⟨none,.asg 8 (.t 9)⟩] [(7,10)]) (.leaf [⟨none,.mv (.v 4)⟩,⟨none,.ld (.v 1)⟩,⟨none,.ld (.v 1)⟩,⟨none,.dyn (.k (.fn 29 [])) [(.t 1)]⟩,⟨none,.nck (.t 2)⟩,⟨none,.fA 0 (.t 4)⟩,⟨none,.call 39 [(.t 3),(.t 5),(.t 0)]⟩,⟨none,.mv (.t 6)⟩,⟨none,.ext 0 (.t 7)⟩,⟨none,.alc [.nils (.int .i64 0),.nils (ints [])]⟩,⟨none,.stn 2 (.t 9) (.t 8)⟩,⟨none,.ext 1 (.t 7)⟩,⟨none,.asg 8 (.t 11)⟩] [(7,9)])) (.two 10 11 [0,1,2,3,4,5,6,7,8,9,11,10,12] (.leaf [⟨none,.mv (.v 4)⟩,⟨none,.ld (.v 1)⟩,⟨none,.ld (.v 1)⟩,⟨none,.alc [.nils (.int .i64 0),.nils (ints [])]⟩,⟨none,.dyn (.k (.fn 29 [])) [(.t 1)]⟩,⟨none,.nck (.t 2)⟩,⟨none,.fA 0 (.t 5)⟩,⟨none,.call 39 [(.t 4),(.t 6),(.t 0)]⟩,⟨none,.mv (.t 7)⟩,⟨none,.ext 0 (.t 8)⟩,⟨none,.ext 1 (.t 8)⟩,⟨none,.stn 2 (.t 3) (.t 9)⟩,⟨none,.asg 8 (.t 10)⟩] [(7,3)]) (.leaf [⟨none,.mv (.v 4)⟩,⟨none,.ld (.v 1)⟩,⟨none,.ld (.v 1)⟩,⟨none,.alc [.nils (.int .i64 0),.nils (ints [])]⟩,⟨none,.dyn (.k (.fn 29 [])) [(.t 1)]⟩,⟨none,.nck (.t 2)⟩,⟨none,.fA 0 (.t 5)⟩,⟨none,.call 39 [(.t 4),(.t 6),(.t 0)]⟩,⟨none,.mv (.t 7)⟩,⟨none,.ext 0 (.t 8)⟩,⟨none,.stn 2 (.t 3) (.t 9)⟩,⟨none,.ext 1 (.t 8)⟩,⟨none,.asg 8 (.t 11)⟩] [(7,3)]))) (.two 3 4 [0,1,2,4,3,5,6,7,8,9,10,11,12] (.two 3 10 [0,1,2,5,10,3,4,6,7,8,9,11,12] (.two 9 11 [0,1,2,3,4,5,6,7,8,10,11,9,12] (.leaf [⟨none,.mv (.v 4)⟩,⟨none,.ld (.v 1)⟩,⟨none,.ld (.v 1)⟩,⟨none,.nck (.t 2)⟩,⟨none,.dyn (.k (.fn 29 [])) [(.t 1)]⟩,⟨none,.fA 0 (.t 3)⟩,⟨none,.call 39 [(.t 4),(.t 5),(.t 0)]⟩,⟨none,.mv (.t 6)⟩,⟨none,.ext 0 (.t 7)⟩,⟨none,.ext 1 (.t 7)⟩,⟨none,.alc [.nils (.int .i64 0),.nils (ints [])]⟩,⟨none,.stn 2 (.t 10) (.t 8)⟩,⟨none,.asg 8 (.t 9)⟩] [(7,10)]) (.leaf [⟨none,.mv (.v 4)⟩,⟨none,.ld (.v 1)⟩,⟨none,.ld (.v 1)⟩,⟨none,.nck (.t 2)⟩,⟨none,.dyn (.k (.fn 29 [])) [(.t 1)]⟩,⟨none,.fA 0 (.t 3)⟩,⟨none,.call 39 [(.t 4),(.t 5),(.t 0)]⟩,⟨none,.mv (.t 6)⟩,⟨none,.ext 0 (.t 7)⟩,⟨none,.alc [.nils (.int .i64 0),.nils (ints [])]⟩,⟨none,.stn 2 (.t 9) (.t 8)⟩,⟨none,.ext 1 (.t 7)⟩,⟨none,.asg 8 (.t 11)⟩] [(7,9)])) (.two 10 11 [0,1,2,3,4,5,6,7,8,9,11,10,12] (.leaf [⟨none,.mv (.v 4)⟩,⟨none,.ld (.v 1)⟩,⟨none,.ld (.v 1)⟩,⟨none,.nck (.t 2)⟩,⟨none,.alc [.nils (.int .i64 0),.nils (ints [])]⟩,⟨none,.dyn (.k (.fn 29 [])) [(.t 1)]⟩,⟨none,.fA 0 (.t 3)⟩,⟨none,.call 39 [(.t 5),(.t 6),(.t 0)]⟩,⟨none,.mv (.t 7)⟩,⟨none,.ext 0 (.t 8)⟩,⟨none,.ext 1 (.t 8)⟩,⟨none,.stn 2 (.t 4) (.t 9)⟩,⟨none,.asg 8 (.t 10)⟩] [(7,4)]) (.leaf [⟨none,.mv (.v 4)⟩,⟨none,.ld (.v 1)⟩,⟨none,.ld (.v 1)⟩,⟨none,.nck (.t 2)⟩,⟨none,.alc [.nils (.int .i64 0),.nils (ints [])]⟩,⟨none,.dyn (.k (.fn 29 [])) [(.t 1)]⟩,⟨none,.fA 0 (.t 3)⟩,⟨none,.call 39 [(.t 5),(.t 6),(.t 0)]⟩,⟨none,.mv (.t 7)⟩,⟨none,.ext 0 (.t 8)⟩,⟨none,.stn 2 (.t 4) (.t 9)⟩,⟨none,.ext 1 (.t 8)⟩,⟨none,.asg 8 (.t 11)⟩] [(7,4)]))) (.two 4 10 [0,1,2,3,5,10,4,6,7,8,9,11,12] (.two 9 11 [0,1,2,3,4,5,6,7,8,10,11,9,12] (.leaf [⟨none,.mv (.v 4)⟩,⟨none,.ld (.v 1)⟩,⟨none,.ld (.v 1)⟩,⟨none,.nck (.t 2)⟩,⟨none,.fA 0 (.t 3)⟩,⟨none,.dyn (.k (.fn 29 [])) [(.t 1)]⟩,⟨none,.call 39 [(.t 5),(.t 4),(.t 0)]⟩,⟨none,.mv (.t 6)⟩,⟨none,.ext 0 (.t 7)⟩,⟨none,.ext 1 (.t 7)⟩,⟨none,.alc [.nils (.int .i64 0),.nils (ints [])]⟩,⟨none,.stn 2 (.t 10) (.t 8)⟩,⟨none,.asg 8 (.t 9)⟩] [(7,10)]) (.leaf [⟨none,.mv (.v 4)⟩,⟨none,.ld (.v 1)⟩,⟨none,.ld (.v 1)⟩,⟨none,.nck (.t 2)⟩,⟨none,.fA 0 (.t 3)⟩,⟨none,.dyn (.k (.fn 29 [])) [(.t 1)]⟩,⟨none,.call 39 [(.t 5),(.t 4),(.t 0)]⟩,⟨none,.mv (.t 6)⟩,⟨none,.ext 0 (.t 7)⟩,⟨none,.alc [.nils (.int .i64 0),.nils (ints [])]⟩,⟨none,.stn 2 (.t 9) (.t 8)⟩,⟨none,.ext 1 (.t 7)⟩,⟨none,.asg 8 (.t 11)⟩] [(7,9)])) (.two 10 11 [0,1,2,3,4,5,6,7,8,9,11,10,12] (.leaf [⟨none,.mv (.v 4)⟩,⟨none,.ld (.v 1)⟩,⟨none,.ld (.v 1)⟩,⟨none,.nck (.t 2)⟩,⟨none,.fA 0 (.t 3)⟩,⟨none,.alc [.nils (.int .i64 0),.nils (ints [])]⟩,⟨none,.dyn (.k (.fn 29 [])) [(.t 1)]⟩,⟨none,.call 39 [(.t 6),(.t 4),(.t 0)]⟩,⟨none,.mv (.t 7)⟩,⟨none,.ext 0 (.t 8)⟩,⟨none,.ext 1 (.t 8)⟩,⟨none,.stn 2 (.t 5) (.t 9)⟩,⟨none,.asg 8 (.t 10)⟩] [(7,5)]) (.leaf [⟨none,.mv (.v 4)⟩,⟨none,.ld (.v 1)⟩,⟨none,.ld (.v 1)⟩,⟨none,.nck (.t 2)⟩,⟨none,.fA 0 (.t 3)⟩,⟨none,.alc [.nils (.int .i64 0),.nils (ints [])]⟩,⟨none,.dyn (.k (.fn 29 [])) [(.t 1)]⟩,⟨none,.call 39 [(.t 6),(.t 4),(.t 0)]⟩,⟨none,.mv (.t 7)⟩,⟨none,.ext 0 (.t 8)⟩,⟨none,.stn 2 (.t 5) (.t 9)⟩,⟨none,.ext 1 (.t 8)⟩,⟨none,.asg 8 (.t 11)⟩] [(7,5)])))))))
def c_impl_journalText_read_3:C := (.alt [] (.two 0 7 [1,2,3,4,5,6,7,0,8,9,10] (.leaf [⟨none,.ld (.v 1)⟩,⟨none,.ld (.v 1)⟩,⟨none,.nck (.t 1)⟩,⟨none,.fA 5 (.t 2)⟩,⟨none,.ld (.t 3)⟩,⟨none,.lda 2 (.v 7)⟩,⟨none,.bldS (.agg [ints [],intss []]) 1 [(0,(.t 5))]⟩,⟨none,.app 2 48 (.t 4) (.t 6)⟩,⟨none,.nck (.t 0)⟩,⟨none,.fA 5 (.t 8)⟩,⟨none,.st (.t 9) (.t 7)⟩] []) (.leaf [⟨none,.ld (.v 1)⟩,⟨none,.nck (.t 0)⟩,⟨none,.fA 5 (.t 1)⟩,⟨none,.ld (.t 2)⟩,⟨none,.lda 2 (.v 7)⟩,⟨none,.bldS (.agg [ints [],intss []]) 1 [(0,(.t 4))]⟩,⟨none,.app 2 48 (.t 3) (.t 5)⟩,⟨none,.ld (.v 1)⟩,⟨none,.nck (.t 7)⟩,⟨none,.fA 5 (.t 8)⟩,⟨none,.st (.t 9) (.t 6)⟩] [])))
def c_impl_journalText_read_4:C := (.alt [] (.two 0 7 [1,2,3,4,5,6,7,0,8,9,10] (.leaf [⟨none,.ld (.v 1)⟩,⟨none,.ld (.v 1)⟩,⟨none,.nck (.t 1)⟩,⟨none,.fA 6 (.t 2)⟩,⟨none,.ld (.t 3)⟩,⟨none,.mv (.v 4)⟩,⟨none,.bldS (.slice (.agg [.int .i64 0,.int .i64 0,.int .i64 0,.int .i64 0]) []) 1 [(0,(.t 5))]⟩,⟨none,.app 1 24 (.t 4) (.t 6)⟩,⟨none,.nck (.t 0)⟩,⟨none,.fA 6 (.t 8)⟩,⟨none,.st (.t 9) (.t 7)⟩] []) (.leaf [⟨none,.ld (.v 1)⟩,⟨none,.nck (.t 0)⟩,⟨none,.fA 6 (.t 1)⟩,⟨none,.ld (.t 2)⟩,⟨none,.mv (.v 4)⟩,⟨none,.bldS (.slice (.agg [.int .i64 0,.int .i64 0,.int .i64 0,.int .i64 0]) []) 1 [(0,(.t 4))]⟩,⟨none,.app 1 24 (.t 3) (.t 5)⟩,⟨none,.ld (.v 1)⟩,⟨none,.nck (.t 7)⟩,⟨none,.fA 6 (.t 8)⟩,⟨none,.st (.t 9) (.t 6)⟩] [])))
def c_impl_journalText_read_5:C := (.alt [] (.two 0 5 [1,2,3,4,5,0,6,7,8] (.leaf [⟨none,.ld (.v 1)⟩,⟨none,.ld (.v 1)⟩,⟨none,.nck (.t 1)⟩,⟨none,.fA 0 (.t 2)⟩,⟨none,.call 63 [(.t 3)]⟩,⟨none,.bldT (.agg [ints [],intss []]) (.t 4)⟩,⟨none,.nck (.t 0)⟩,⟨none,.fA 5 (.t 6)⟩,⟨none,.st (.t 7) (.t 5)⟩] []) (.leaf [⟨none,.ld (.v 1)⟩,⟨none,.nck (.t 0)⟩,⟨none,.fA 0 (.t 1)⟩,⟨none,.call 63 [(.t 2)]⟩,⟨none,.bldT (.agg [ints [],intss []]) (.t 3)⟩,⟨none,.ld (.v 1)⟩,⟨none,.nck (.t 5)⟩,⟨none,.fA 5 (.t 6)⟩,⟨none,.st (.t 7) (.t 4)⟩] [])))
def c_impl_journalText_read:C := (.seq c_impl_journalText_read_1 (.seq (.opc [] [⟨none,.mv (.v 2)⟩,⟨none,.not (.t 0)⟩] [] (.t 1) (.seq (.ops [] [⟨none,.ld (.v 1)⟩,⟨none,.stR 1 (.v 1) (.t 0)⟩,⟨none,.asg 2 (.k (.bool false))⟩] []) .ret) .skip) (.seq c_impl_journalText_read_5 (.block 0 (.loop (.block 1 (.seq (.ops [] [⟨none,.mv (.v 0)⟩,⟨none,.ld (.v 3)⟩,⟨none,.call 64 [(.t 0),(.t 1)]⟩,⟨none,.mv (.t 2)⟩,⟨none,.ext 0 (.t 3)⟩,⟨none,.ext 1 (.t 3)⟩,⟨none,.ext 2 (.t 3)⟩,⟨none,.asg 4 (.t 4)⟩,⟨none,.asg 5 (.t 5)⟩,⟨none,.asg 6 (.t 6)⟩] []) (.seq (.opc [] [⟨none,.mv (.v 6)⟩,⟨none,.not (.t 0)⟩] [] (.t 1) (.seq (.ops [] [⟨none,.ld (.v 1)⟩,⟨none,.stR 1 (.v 1) (.t 0)⟩,⟨none,.asg 2 (.k (.bool true))⟩] []) .ret) .skip) (.seq c_impl_journalText_read_2 (.seq (.opc [] [⟨none,.mv (.v 8)⟩,⟨none,.not (.t 0)⟩] [] (.t 1) (.seq (.ops [] [⟨none,.ld (.v 1)⟩,⟨none,.stR 1 (.v 1) (.t 0)⟩,⟨none,.asg 2 (.k (.bool true))⟩] []) .ret) .skip) (.seq c_impl_journalText_read_3 (.seq c_impl_journalText_read_4 (.ops [] [⟨none,.mv (.v 5)⟩,⟨none,.st (.v 3) (.t 0)⟩] [])))))))))))))
def tr_impl_journalText_read:List Nat:=[0,2,3,4,5,6,7,8,9]
theorem ok_impl_journalText_read:fitC Go.Proofs.Tryz.prog 77 tr_impl_journalText_read (tailC 4 (Go.Proofs.Tryz.f46.body.getD .skip)) c_impl_journalText_read=true:=by decide +kernel
def rdEnd (t:List UInt8) (env:List D):Prop :=
 match resJ t with
 | none=>∃ (s:Sch) (n:Int) (x y z u v:D),env=[.str t,.adr 11 [(0,0)],.bool false,.adr 10 [(0,0)],x,y,z,u,v,.box (hiB s [] [] 0),.box [.int .i64 n],.box [.adr 9 [(0,0)]]]
 | some p=>∃ (x y z u v:D),env=[.str t,.adr 11 [(0,0)],.bool true,.adr 10 [(0,0)],x,y,z,u,v,.box (hiB p.1 p.2.dt p.2.tx 0),.box [.int .i64 p.2.gd],.box [.adr 9 [(0,0)]]]
def allP (s:Sch):Option Dat→Dat×Bool
 | some d=>(d,d.wholeB s)
 | none=>(Dat.zero,false)
theorem allD_P (s:Sch) (o:Option Dat):allD s o=.tup [.agg [ints (allP s o).1.sz,intss (allP s o).1.mp],.bool (allP s o).2]:=by
 cases o<;>rfl
theorem vc_head {K:List D→Prop} {E:Ex} (t:List UInt8) (ht:t.length≤1048576)
  (hK:∀ (s:Sch) (n:Int) (b:Bool),b=(headF t).isSome→(∀ p,headF t=some p→s=p.1∧n=p.2)→K [.str t,.adr 11 [(0,0)],.bool b,.adr 10 [(0,0)],.dead,.dead,.dead,.dead,.dead,.box (hiB s [] [] 0),.box [.int .i64 n],.box [.adr 9 [(0,0)]]]) :
  vcC Go.Proofs.Tryz.prog c_impl_journalText_read_1 K E [.str t,.adr 11 [(0,0)],.bool false,.adr 10 [(0,0)],.dead,.dead,.dead,.dead,.dead,.box (hiB ⟨0,[],[],[],[]⟩ [] [] 0),.box [.int .i64 0],.box [.adr 9 [(0,0)]]]:=by
 unfold c_impl_journalText_read_1
 have hhd:=ret_impl_journalText_head t (by omega)
 unfold hiB at hK ⊢
 simp only [go_sem,Nat.reduceLT,Nat.reduceAdd,Nat.reduceSub,↓reduceIte]
 with_reducible (repeat' apply And.intro)
 all_goals (
  refine e_call [] false hhd (by exact ⟨by decide,rfl⟩) (by repeat (first | exact trivial | refine ⟨rfl,?_⟩)) (by repeat (first | exact trivial | refine ⟨.inl rfl,?_⟩ | refine ⟨.inr ⟨rfl,rfl⟩,?_⟩)) ?_
  rintro _ _ ⟨rfl,s,n,b,rfl,hb,hp⟩
  refine ⟨(by repeat (first | exact trivial | refine ⟨(fun h=>by cases h),?_⟩)),(fun h=>by cases h),?_⟩
  simp only [go_sem,Nat.reduceLT,Nat.reduceAdd,Nat.reduceSub,Nat.reduceEqDiff,Nat.reduceBEq,Nat.reduceLeDiff,↓reduceIte])
 all_goals exact hK _ _ _ hb hp
theorem vc_first {K:List D→Prop} {E:Ex} (t:List UInt8) (s:Sch) (hso:SOk s) {n:Int}
  (hK:K [.str t,.adr 11 [(0,0)],.bool true,.adr 10 [(0,0)],.dead,.dead,.dead,.dead,.dead,.box (hiB s [noD s] [] 0),.box [.int .i64 n],.box [.adr 9 [(0,0)]]]) :
  vcC Go.Proofs.Tryz.prog c_impl_journalText_read_5 K E [.str t,.adr 11 [(0,0)],.bool true,.adr 10 [(0,0)],.dead,.dead,.dead,.dead,.dead,.box (hiB s [] [] 0),.box [.int .i64 n],.box [.adr 9 [(0,0)]]]:=by
 unfold c_impl_journalText_read_5
 unfold hiB at hK ⊢
 simp only [go_sem,Nat.reduceLT,Nat.reduceAdd,Nat.reduceSub,↓reduceIte]
 with_reducible (repeat' apply And.intro)
 all_goals (
  refine call_wk (bs:=[.ptr s.cells]) (ret_impl_noData s hso.n0 hso.n8 hso.f8) rfl ⟨.inr ⟨5,_,rfl,rfl⟩,trivial⟩ (.inl (nv_Dat _)) ?_
  simp only [go_sem,Nat.reduceLT,Nat.reduceAdd,Nat.reduceSub,Nat.reduceEqDiff,Nat.reduceBEq,Nat.reduceLeDiff,↓reduceIte])
 all_goals exact hK
theorem vc_after {K:List D→Prop} {E:Ex} (t:List UInt8) (s:Sch) (H:Hs) (l:List Chg) {b:Bool} {e g:Int} (hok:s.ok=true) (hd:DOk s H.last) (h0 : 0<H.dt.length) (hl:H.dt.length≤4294966000)
  (hK:K [.str t,.adr 11 [(0,0)],.bool b,.adr 10 [(0,0)],.o (lst Chg.d Chg.zero l),.int .i64 e,.bool true,.box [.o (ints (allP s (Dat.all s H.last l)).1.sz),.o (intss (allP s (Dat.all s H.last l)).1.mp)],.bool (allP s (Dat.all s H.last l)).2,.box (hiB s H.dt H.tx 0),.box [.int .i64 g],.box [.adr 9 [(0,0)]]]) :
  vcC Go.Proofs.Tryz.prog c_impl_journalText_read_2 K E [.str t,.adr 11 [(0,0)],.bool b,.adr 10 [(0,0)],.o (lst Chg.d Chg.zero l),.int .i64 e,.bool true,.dead,.dead,.box (hiB s H.dt H.tx 0),.box [.int .i64 g],.box [.adr 9 [(0,0)]]]:=by
 unfold c_impl_journalText_read_2
 have hnow:=ret_nowB s H.dt H.tx 0 h0 hl
 have hafter:=ret_impl_data_after s H.last l hok hd
 rw [allD_P] at hafter
 generalize allP s (Dat.all s H.last l)=q at hafter hK
 unfold hiB at hnow hK ⊢
 simp only [go_sem,Nat.reduceLT,Nat.reduceAdd,Nat.reduceSub,Nat.reduceBEq,↓reduceIte]
 with_reducible (repeat' apply And.intro)
 all_goals (
  refine g_call [9] false hnow (by exact ⟨by decide,rfl⟩) (by repeat (first | exact trivial | refine ⟨rfl,?_⟩)) (by repeat (first | exact trivial | refine ⟨.inl rfl,?_⟩ | refine ⟨.inr ⟨rfl,rfl⟩,?_⟩)) (by repeat (first | exact trivial | refine ⟨(fun h=>by cases h),?_⟩)) (fun h=>by cases h) ?_
  simp only [go_sem,Nat.reduceLT,Nat.reduceAdd,Nat.reduceSub,Nat.reduceBEq,↓reduceIte]
  refine call_wk (bs:=[Dat.d H.last,.ptr s.cells,lst Chg.d Chg.zero l]) hafter rfl ⟨.inl rfl,.inr ⟨5,_,rfl,rfl⟩,.inl rfl,trivial⟩ (.inl (by simp only [D.novw,novwL,nv_ints,nv_intss,Bool.and_self])) ?_
  simp only [go_sem,Nat.reduceLT,Nat.reduceAdd,Nat.reduceSub,Nat.reduceEqDiff,Nat.reduceBEq,Nat.reduceLeDiff,↓reduceIte])
 all_goals exact hK
theorem vc_states {K:List D→Prop} {E:Ex} (t:List UInt8) (s:Sch) (H:Hs) (l:List Chg) (d:Dat) {b:Bool} {e g:Int} (hl:H.dt.length≤1048576)
  (hK:K [.str t,.adr 11 [(0,0)],.bool b,.adr 10 [(0,0)],.o (lst Chg.d Chg.zero l),.int .i64 e,.bool true,.box [.o .dead,.o .dead],.bool true,.box (hiB s (H.dt++[d]) H.tx 0),.box [.int .i64 g],.box [.adr 9 [(0,0)]]]) :
  vcC Go.Proofs.Tryz.prog c_impl_journalText_read_3 K E [.str t,.adr 11 [(0,0)],.bool b,.adr 10 [(0,0)],.o (lst Chg.d Chg.zero l),.int .i64 e,.bool true,.box [.o (ints d.sz),.o (intss d.mp)],.bool true,.box (hiB s H.dt H.tx 0),.box [.int .i64 g],.box [.adr 9 [(0,0)]]]:=by
 unfold c_impl_journalText_read_3
 unfold hiB at hK ⊢
 simp only [go_sem,Nat.reduceLT,Nat.reduceAdd,Nat.reduceSub,Nat.reduceEqDiff,Nat.reduceBEq,Nat.reduceLeDiff,↓reduceIte]
 with_reducible (repeat' apply And.intro)
 all_goals first | omega | exact hK
theorem vc_txs {K:List D→Prop} {E:Ex} (t:List UInt8) (s:Sch) (H:Hs) (l:List Chg) (dt:List Dat) {b:Bool} {e g:Int} (hl:H.tx.length≤1048576)
  (hK:K [.str t,.adr 11 [(0,0)],.bool b,.adr 10 [(0,0)],.dead,.int .i64 e,.bool true,.box [.o .dead,.o .dead],.bool true,.box (hiB s dt (H.tx++[l]) 0),.box [.int .i64 g],.box [.adr 9 [(0,0)]]]) :
  vcC Go.Proofs.Tryz.prog c_impl_journalText_read_4 K E [.str t,.adr 11 [(0,0)],.bool b,.adr 10 [(0,0)],.o (lst Chg.d Chg.zero l),.int .i64 e,.bool true,.box [.o .dead,.o .dead],.bool true,.box (hiB s dt H.tx 0),.box [.int .i64 g],.box [.adr 9 [(0,0)]]]:=by
 unfold c_impl_journalText_read_4
 unfold hiB at hK ⊢
 simp only [go_sem,Nat.reduceLT,Nat.reduceAdd,Nat.reduceSub,Nat.reduceEqDiff,Nat.reduceBEq,Nat.reduceLeDiff,↓reduceIte]
 with_reducible (repeat' apply And.intro)
 all_goals first | omega | exact hK
end Go.D3
namespace Go.D3
open Go
set_option maxRecDepth 100000
set_option maxHeartbeats 4000000
theorem vc_read (t:List UInt8) (ht:t.length≤1048576):vcC Go.Proofs.Tryz.prog c_impl_journalText_read (fun _=>False) ⟨fun _ _=>False,rdEnd t⟩ [.str t,.adr 11 [(0,0)],.bool false,.adr 10 [(0,0)],.dead,.dead,.dead,.dead,.dead,.box (hiB ⟨0,[],[],[],[]⟩ [] [] 0),.box [.int .i64 0],.box [.adr 9 [(0,0)]]]:=by
 unfold c_impl_journalText_read
 simp only [go_sem]
 refine vc_head t ht fun s n b hb hp=>?_
 unfold hiB
 simp only [go_sem,Nat.reduceLT,Nat.reduceAdd,Nat.reduceSub,Nat.reduceBEq,Nat.reduceLeDiff,↓reduceIte]
 refine ⟨fun h=>?_,fun h=>?_⟩
 ·have hn:headF t=none:=by
   cases hh:headF t with
   | none=>rfl
   | some p=>rw [hb,hh] at h;cases h
  unfold rdEnd resJ
  rw [hn]
  exact ⟨s,n,_,_,_,_,_,rfl⟩
 have hs:∃ p,headF t=some p:=by
  cases hh:headF t with
  | none=>rw [hb,hh] at h;cases h
  | some p=>exact ⟨p,rfl⟩
 obtain ⟨p,hh⟩:=hs
 obtain ⟨rfl,rfl⟩:=hp p hh
 obtain ⟨hok,hpl⟩:=head_ok hh
 have hso:=sok_of (ok_len hok).1
 have hb':b=true:=by rw [hb,hh];rfl
 subst hb'
 clear hb hp h
 refine vc_first t p.1 hso ?_
 unfold hiB
 simp only [go_sem]
 refine loop_set [4,5,6,7,8] (fun (H:Hs)=>[(9,.box (hiB p.1 H.dt H.tx 0)),(10,.box [.int .i64 H.gd])]) (fun H=>HOk p.1 t H∧runJ p.1 t H.gd [] H=runJ p.1 t p.2 [] ⟨[noD p.1],[],p.2⟩) (fun H=>t.length-H.gd) ⟨[noD p.1],[],p.2⟩ (by simp only [go_sem,Nat.reduceLT,Nat.reduceBEq,↓reduceIte];rfl) ⟨hs0_ok hso hpl,rfl⟩ rfl ?_
 rintro H ⟨hH,hr⟩
 have hgl:=hH.gl
 have hdl:=hH.dl
 have h6:=hH.t6
 unfold hiB
 simp only [go_sem,Nat.reduceLT,Nat.reduceAdd,Nat.reduceSub,↓reduceIte]
 refine call_of (ret_impl_journalText_transaction t H.gd (by omega) hgl) rfl (.inl (txD_nv _)) ?_
 have hf:=txF_facts (t:=t) _ H.gd [] (Nat.le_refl _) (by decide)
 have hrx:=runJ_tx (s:=p.1) (t:=t) (H:=H) _ H.gd [] (Nat.le_refl _)
 have stop:runJ p.1 t H.gd [] H=H→∀ x y z u v,rdEnd t [.str t,.adr 11 [(0,0)],.bool true,.adr 10 [(0,0)],x,y,z,u,v,.box (hiB p.1 H.dt H.tx 0),.box [.int .i64 H.gd],.box [.adr 9 [(0,0)]]]:=fun hg x y z u v=>by
  have e:resJ t=some (p.1,H):=by unfold resJ;rw [hh];show some (p.1,_)=_;rw [← hr,hg]
  unfold rdEnd
  rw [e]
  exact ⟨_,_,_,_,_,rfl⟩
 cases hx:txF t H.gd [] with
 | none =>
  rw [hx] at hrx
  simp only [txD]
  simp only [go_sem,Nat.reduceLT,Nat.reduceAdd,Nat.reduceSub,Nat.reduceBEq,Nat.reduceLeDiff,↓reduceIte]
  exact stop hrx _ _ _ _ _
 | some q =>
  obtain ⟨l,e⟩:=q
  rw [hx] at hrx
  obtain ⟨f1,f2,f3⟩:=hf l e hx
  simp only [txD]
  simp only [go_sem,Nat.reduceLT,Nat.reduceAdd,Nat.reduceSub,Nat.reduceBEq,Nat.reduceLeDiff,↓reduceIte]
  refine vc_after t p.1 H l hok hH.last (by omega) (by omega) ?_
  unfold hiB
  simp only [go_sem,Nat.reduceLT,Nat.reduceAdd,Nat.reduceSub,Nat.reduceBEq,Nat.reduceLeDiff,↓reduceIte]
  refine ⟨fun h=>stop ?_ _ _ _ _ _,fun h=>?_⟩
  ·have hg:goodO p.1 H.last l=none:=by
    unfold goodO
    cases hd:Dat.all p.1 H.last l with
    | none=>rfl
    | some d =>
     rw [hd] at h
     have h:d.wholeB p.1=false:=by simpa [allP] using h
     rw [Option.bind_some,h,Bool.and_false];rfl
   rw [hrx];simp only [hg]
  ·obtain ⟨d,hd,hw⟩:∃ d,Dat.all p.1 H.last l=some d∧d.wholeB p.1=true:=by
    cases hd:Dat.all p.1 H.last l with
    | none=>rw [hd] at h;cases h
    | some d =>
     rw [hd] at h
     exact ⟨d,rfl,by simpa [allP] using h⟩
   have hg:goodO p.1 H.last l=some d:=by unfold goodO;rw [hd,Option.bind_some,hw,decide_eq_true f1];rfl
   have ep:allP p.1 (Dat.all p.1 H.last l)=(d,true):=by rw [hd,allP,hw]
   rw [ep]
   refine vc_states t p.1 H l d (by omega) ?_
   refine vc_txs (E:=⟨fun _ _=>False,fun _=>False⟩) t p.1 H l (H.dt++[d]) (by omega) ?_
   unfold hiB
   simp only [go_sem,Nat.reduceLT,Nat.reduceAdd,Nat.reduceSub,Nat.reduceBEq,Nat.reduceLeDiff,↓reduceIte]
   exact ⟨H.push d l e,⟨hH.push hso hg f2 f3,by rw [← hr,hrx];simp only [hg];rfl⟩,by show t.length-e<t.length-H.gd;omega,rfl⟩
end Go.D3
namespace Go.D3
open Go
set_option maxRecDepth 100000
set_option maxHeartbeats 4000000
theorem read_d (b0 b1 b2:Nat) (n:Int) (x:Value) (u:FrameMode) (w:World) (h0:w.cell? ⟨b0,0,none⟩=some (.pointer (some ⟨b1,0,none⟩))) (h2:w.cell? ⟨b2,0,none⟩=some (.int .i64 n)) (h1:w.cell? ⟨b1,7,none⟩=some x) (hz:w.frozen? ⟨b1,7,none⟩=false) :
  CallsD Go.Proofs.Tryz.prog 61 #[.pointer (some ⟨b2,0,none⟩),.pointer (some ⟨b0,0,none⟩)] u w fun e u' w'=>u'=u∧(e=.returned (.tuple #[])∧w'=w.setCell ⟨b1,7,none⟩ (.int .i64 n)):=by
 go_enter_d Go.Proofs.Tryz.func61,Go.Proofs.Tryz.ntmps61
 go_wp2
 go_end0
 exact ⟨rfl,rfl⟩
end Go.D3
namespace Go.D3
open Go
set_option maxRecDepth 100000
set_option maxHeartbeats 4000000
theorem build_h (w:World):Sem.run Go.Proofs.Tryz.prog (Instr.build 65 #[]) w=.ok (.agg #[.int .i64 0,.slice none 0 0,.slice none 0 0,.slice none 0 0,.slice none 0 0,.slice none 0 0,.slice none 0 0,.int .i64 0]) w:=by
 first | rfl | kernel_rfl | (simp [go_sem];rfl) | (go_simp;rfl)
def hz0:Array Value:=#[.int .i64 0,.slice none 0 0,.slice none 0 0,.slice none 0 0,.slice none 0 0,.slice none 0 0,.slice none 0 0,.int .i64 0]
theorem box_h (w:World):Sem.run Go.Proofs.Tryz.prog (Instr.box 65 (.agg #[.int .i64 0,.slice none 0 0,.slice none 0 0,.slice none 0 0,.slice none 0 0,.slice none 0 0,.slice none 0 0,.int .i64 0])) w=.ok (.pointer (some ⟨w.heap.size,0,none⟩)) (w.alloc (.cells #[.int .i64 0,.slice none 0 0,.slice none 0 0,.slice none 0 0,.slice none 0 0,.slice none 0 0,.slice none 0 0,.int .i64 0] 65)):=by
 first | rfl | kernel_rfl | (simp [go_sem];rfl) | (go_simp;rfl)
theorem mf_h (w:World) (x y:Value):Sem.run Go.Proofs.Tryz.prog (Instr.makeFunc (.func 61) #[] #[x,y]) w=.ok (.func (.func 61) #[] #[x,y]) w:=by
 first | rfl | kernel_rfl | (simp [go_sem];rfl) | (go_simp;rfl)
theorem two_c (w:World):((w.alloc (.cells #[.pointer none] 57)).alloc (.cells hz0 65)).cell? ⟨w.heap.size,0,none⟩=some (.pointer none):=by
 rw [World.cell?_alloc_past _ _ _ (show w.heap.size<(w.heap.push _).size by rw [Array.size_push];omega),World.cell?_alloc_at _ _ _ _ rfl];rfl
theorem two_f (w:World):((w.alloc (.cells #[.pointer none] 57)).alloc (.cells hz0 65)).frozen? ⟨w.heap.size,0,none⟩=false:=by
 rw [World.frozen?_alloc_past _ _ _ (show w.heap.size<(w.heap.push _).size by rw [Array.size_push];omega),World.frozen?_alloc_at _ _ _ _ rfl]
end Go.D3
namespace Go.D3
open Go
set_option maxRecDepth 100000
set_option maxHeartbeats 4000000
def pB (b:Nat):Value:=.pointer (some ⟨b,0,none⟩)
def vlR (v:Value) (n:Nat):Nat→Value
 | 0=>v
 | 1=>pB n
 | 2=>.bool false
 | 3=>pB (n+2)
 | 9=>pB (n+1)
 | 10=>pB (n+2)
 | 11=>pB n
 | _=>undef
def fpR (n:Nat) (k b:Nat):Prop:=(k=9∧b=n+1)∨(k=10∧b=n+2)∨(k=11∧b=n)
def cxR (v:Value) (w:World) (A:Nat→Prop) (hA:∀ b,A b→b<w.heap.size) (hg:GOk w A):Ctx:=⟨w,fun _=>False,A,vlR v w.heap.size,fun b hb=>⟨hA b hb,fun h=>h⟩,hg,[⟨.fn (.func 61) #[pB (w.heap.size+2),pB w.heap.size],#[]⟩]⟩
def envR (t:List UInt8):List D:=[.str t,.adr 11 [(0,0)],.bool false,.adr 10 [(0,0)],.dead,.dead,.dead,.dead,.dead,.box (hiB ⟨0,[],[],[],[]⟩ [] [] 0),.box [.int .i64 0],.box [.adr 9 [(0,0)]]]
def trR:List Nat:=[0,2,3,4,5,6,7,8,9]
theorem ctR (t:List UInt8) (k:Nat):(⟨envR t,0,[]⟩:St).cont k=nth (envR t) k:=by
 rw [cont0]
 by_cases hk:k<1000
 ·rw [if_pos hk]
 ·rw [if_neg hk,nth_over]
  show 12≤k
  omega
structure W3 (w W:World):Prop where
 sz:W.heap.size=w.heap.size+3
 h0:W.heap[w.heap.size]?=some (.cells #[pB (w.heap.size+1)] 57 (0,0))
 h1:W.heap[w.heap.size+1]?=some (.cells hz0 65 (0,0))
 h2:W.heap[w.heap.size+2]?=some (.cells #[.int .i64 0] 3 (0,0))
 old:∀ b,b<w.heap.size→W.heap[b]?=w.heap[b]?
 os:W.os=w.os
 tape:W.tape=w.tape
 output:W.output=w.output
theorem bm0 {w W:World} {A:Nat→Prop} {t:List UInt8} {v:Value} {hA:∀ b,A b→b<w.heap.size} {hg:GOk w A} {T:Array Value} (hW:W3 w W) (hv:Rd w A v (.str t)) (hs:T.size=77) (h0:T.getD 0 undef=v) (h2:T.getD 2 undef=pB w.heap.size) (h3:T.getD 3 undef=.bool false) (h4:T.getD 4 undef=pB (w.heap.size+2))
  (h5:T.getD 5 undef=undef) (h6:T.getD 6 undef=undef) (h7:T.getD 7 undef=undef) (h8:T.getD 8 undef=undef) (h9:T.getD 9 undef=undef) :
  Bm (cxR v w A hA hg) 77 trR (envR t) { tmps:=T,defers:=(cxR v w A hA hg).dfs } W:=by
 refine ⟨⟨vlR v w.heap.size,fpR w.heap.size,fun _=>False,?_,?_,fun i t hi _=>by simp at hi,fun _ _ _=>rfl⟩,rfl,fun j hj=>by simp at hj,hs,rfl⟩
 ·have hst:∀ b,A b→stab (cxR v w A hA hg) (fpR w.heap.size) (fun _=>False) W b:=fun b hb=>by
   have:=hA b hb
   have:=hW.sz
   refine ⟨⟨by omega,fun _=>hb⟩,fun h=>h,fun k hk=>?_⟩
   unfold fpR at hk
   omega
  have c9:(⟨envR t,0,[]⟩:St).cont 9=.box (hiB ⟨0,[],[],[],[]⟩ [] [] 0):=ctR t 9
  have c10:(⟨envR t,0,[]⟩:St).cont 10=.box [.int .i64 0]:=ctR t 10
  have c11:(⟨envR t,0,[]⟩:St).cont 11=.box [.adr 9 [(0,0)]]:=ctR t 11
  have adr:∀ (k b:Nat) (l:List D),(⟨envR t,0,[]⟩:St).cont k=.box l→0<l.length→vlR v w.heap.size k=pB b→AdrOk W (⟨envR t,0,[]⟩:St).cont (vlR v w.heap.size) (pB b) k [(0,0)]:=fun k b l hc hl hv=>by
   refine ⟨?_,?_⟩
   ·rw [hc]
    exact ⟨rfl,hl,trivial⟩
   ·rw [hc,hv]
    exact ⟨_,rfl,rfl⟩
  refine ⟨fun k=>?_,fun i j hij b hi hj=>?_,fun _ _ _ h=>h,fun k hk b hb=>?_,fun k b hb=>?_,fun _ h=>h.elim,?_,fun b hb _=>hW.old b hb,hW.os,hW.tape,hW.output⟩
  ·rw [ctR]
   match k with
   | 0=>exact .rd (hv.mono hst fun b hb=>hW.old b (hA b hb))
   | 1=>exact .ref (adr 11 _ _ c11 (by decide) rfl)
   | 2=>exact .rd .bool
   | 3=>exact .ref (adr 10 _ _ c10 (by decide) rfl)
   | 4=>exact Pl.dead
   | 5=>exact Pl.dead
   | 6=>exact Pl.dead
   | 7=>exact Pl.dead
   | 8=>exact Pl.dead
   | 9 =>
    refine ⟨by decide,_,hz0,65,fun _ _=>False,rfl,hW.h1,rfl,fun j c hj=>?_,.inl ⟨rfl,rfl⟩,fun _ _ h=>h.elim,fun _ _ _ _ h=>h.elim⟩
    match j with
    | 0=>cases hj;exact .rd (.int (okInt_has (k:=.i64) (n:=0) rfl))
    | 1=>cases hj;exact .nil
    | 2=>cases hj;exact .nil
    | 3=>cases hj;exact .nil
    | 4=>cases hj;exact .nil
    | 5=>cases hj;exact .nil
    | 6=>cases hj;exact .nil
    | 7=>cases hj;exact .rd (.int (okInt_has (k:=.i64) (n:=0) rfl))
    | _+8=>cases hj
   | 10 =>
    refine ⟨by decide,_,#[.int .i64 0],3,fun _ _=>False,rfl,hW.h2,rfl,fun j c hj=>?_,.inr (.inl ⟨rfl,rfl⟩),fun _ _ h=>h.elim,fun _ _ _ _ h=>h.elim⟩
    match j with
    | 0=>cases hj;exact .rd (.int (okInt_has (k:=.i64) (n:=0) rfl))
    | _+1=>cases hj
   | 11 =>
    refine ⟨by decide,_,#[pB (w.heap.size+1)],57,fun _ _=>False,rfl,hW.h0,rfl,fun j c hj=>?_,.inr (.inr ⟨rfl,rfl⟩),fun _ _ h=>h.elim,fun _ _ _ _ h=>h.elim⟩
    match j with
    | 0=>cases hj;exact Pl.ref (adr 9 _ _ c9 (by decide) rfl)
    | _+1=>cases hj
   | k+12 =>
    rw [nth_over (envR t) (k+12) (by show 12≤k+12;omega)]
    exact Pl.dead
  ·unfold fpR at hi hj;omega
  ·rcases hb with ⟨rfl,_⟩ | ⟨rfl,_⟩ | ⟨rfl,_⟩
   ·rw [c9] at hk;cases hk
   ·rw [c10] at hk;cases hk
   ·rw [c11] at hk;cases hk
  ·have:=hW.sz
   unfold fpR at hb
   exact ⟨by omega,.inr (by show w.heap.size≤b;omega)⟩
  ·have:=hW.sz
   show w.heap.size≤_
   omega
 ·intro j t hj _
  match j with
  | 0=>cases hj;exact h0
  | 1=>cases hj;exact h2
  | 2=>cases hj;exact h3
  | 3=>cases hj;exact h4
  | 4=>cases hj;exact h5
  | 5=>cases hj;exact h6
  | 6=>cases hj;exact h7
  | 7=>cases hj;exact h8
  | 8=>cases hj;exact h9
  | _+9=>cases hj
end Go.D3
namespace Go.D3
open Go
set_option maxRecDepth 100000
set_option maxHeartbeats 4000000
def hcC (s:Sch) (dt:List Dat) (tx:List (List Chg)) (g:Int):List D:=[.int .i64 s.nd,ints s.fr,ints s.to,lst Pth.d Pth.zero s.lf,lst Pth.d Pth.zero s.rt,lst Dat.d Dat.zero dt,lst (lst Chg.d Chg.zero) [] tx,.int .i64 g]
def endOk (w:World) (A:Nat→Prop) (b:Bool) (L:List D) (e:Ending) (w2:World):Prop:=∃ (v:Value) (F:Nat→Prop),e=.returned v∧w.heap.size≤w2.heap.size∧Own w2 (fun x=>A x∨(w.heap.size≤x∧x<w2.heap.size∧¬ F x)) v (.tup [.ptr L,.bool b]) F ∧
 (∀ x,F x→x<w2.heap.size∧w.heap.size≤x)∧(∀ x,x<w.heap.size→w2.heap[x]?=w.heap[x]?)∧w2.os=w.os∧w2.tape=w.tape∧w2.output=w.output
theorem pB_inj {a b:Nat} (h:pB a=pB b):a=b:=by
 unfold pB at h
 simpa using h
theorem rd_leave {w w':World} {A:Nat→Prop} {t:List UInt8} {v:Value} {hA:∀ b,A b→b<w.heap.size} {hg:GOk w A} {a:Act} {R:Ending→World→Prop} {b:Bool} {g:Int} {x y z u v0:D} {s:Sch} {dt:List Dat} {tx:List (List Chg)}
  (hB:Bm (cxR v w A hA hg) 77 trR [.str t,.adr 11 [(0,0)],.bool b,.adr 10 [(0,0)],x,y,z,u,v0,.box (hiB s dt tx 0),.box [.int .i64 g],.box [.adr 9 [(0,0)]]] a w') (hR:∀ e w2,endOk w A b (hcC s dt tx g) e w2→R e w2) :
  Leaves Go.Proofs.Tryz.prog Go.Proofs.Tryz.f46 a.tmps R a.defers .returning w':=by
 rw [hB.defers]
 obtain ⟨vl,fp,G,hp,htr,_,hgh⟩:=hB.ex
 have g9:vl 9=pB (w.heap.size+1):=by exact hgh 9 (Nat.le_refl _) (by decide)
 have g10:vl 10=pB (w.heap.size+2):=by exact hgh 10 (by decide) (by decide)
 have g11:vl 11=pB w.heap.size:=by exact hgh 11 (by decide) (by decide)
 obtain ⟨_,b9,cs9,e9,Fs9,hv9,hb9,hs9,hc9,hF9,hf9,hd9⟩:=(show BoxOk w' _ _ (vl 9) (fp 9) (hiB s dt tx 0) from hp.ok 9)
 obtain ⟨_,b10,cs10,e10,Fs10,hv10,hb10,hs10,hc10,hF10,hf10,hd10⟩:=(show BoxOk w' _ _ (vl 10) (fp 10) [.int .i64 g] from hp.ok 10)
 obtain ⟨_,b11,cs11,e11,Fs11,hv11,hb11,hs11,hc11,hF11,hf11,hd11⟩:=(show BoxOk w' _ _ (vl 11) (fp 11) [.adr 9 [(0,0)]] from hp.ok 11)
 rw [g9] at hv9
 rw [g10] at hv10
 rw [g11] at hv11
 obtain rfl:=pB_inj hv9
 obtain rfl:=pB_inj hv10
 obtain rfl:=pB_inj hv11
 have hnn:w.heap.size≤w'.heap.size:=by exact hp.size
 have adr:∀ {val:Value} {k bb:Nat} {l:List D},AdrOk w' (⟨[.str t,.adr 11 [(0,0)],.bool b,.adr 10 [(0,0)],x,y,z,u,v0,.box (hiB s dt tx 0),.box [.int .i64 g],.box [.adr 9 [(0,0)]]],0,[]⟩:St).cont vl val k [(0,0)]→(⟨[.str t,.adr 11 [(0,0)],.bool b,.adr 10 [(0,0)],x,y,z,u,v0,.box (hiB s dt tx 0),.box [.int .i64 g],.box [.adr 9 [(0,0)]]],0,[]⟩:St).cont k=.box l→vl k=pB bb→val=pB bb:=fun {val k bb l} h h1 h2=>by
  obtain ⟨_,ad,h3,h4⟩:=h
  rw [h1,h2] at h3
  rw [h4]
  have:adrAt w' (pB bb) (.box l) [(0,0)]=some ⟨bb,0,none⟩:=rfl
  rw [this] at h3
  cases h3
  rfl
 have t2:a.tmps.getD 2 undef=pB w.heap.size:=(htr 1 2 rfl rfl).trans (adr (pl_adr (hp.ok 1)) rfl g11)
 have t3:a.tmps.getD 3 undef=.bool b:=(htr 2 3 rfl rfl).trans (pl_bool (hp.ok 2))
 have k0:cs11.getD 0 undef=pB (w.heap.size+1):=adr (pl_adr (hc11 0 _ rfl)) rfl g9
 have k2:cs10.getD 0 undef=.int .i64 g∧IntKind.i64.has g:=pl_int (hc10 0 _ rfl)
 have c0:w'.cell? ⟨w.heap.size,0,none⟩=some (pB (w.heap.size+1)):=by rw [← k0];exact cell_own hb11 (by rw [hs11];decide)
 have c2:w'.cell? ⟨w.heap.size+2,0,none⟩=some (.int .i64 g):=by rw [← k2.1];exact cell_own hb10 (by rw [hs10];exact Nat.zero_lt_one)
 have c1:w'.cell? ⟨w.heap.size+1,7,none⟩=some (cs9.getD 7 undef):=cell_own hb9 (by rw [hs9];show 7<8;decide)
 have hz:w'.frozen? ⟨w.heap.size+1,7,none⟩=false:=by simp [World.frozen?,hb9]
 refine leaves_cons (f:=61) (args:=#[pB (w.heap.size+2),pB w.heap.size]) (fun h=>by cases h) ?_ (CallsD.mono (read_d w.heap.size (w.heap.size+1) (w.heap.size+2) g _ .returning w' c0 c2 c1 hz) ?_)
 ·rfl
 rintro e u' w2 ⟨rfl,rfl,rfl⟩
 have hr0:w'.heap.size≤(w'.setCell ⟨w.heap.size+1,7,none⟩ (.int .i64 g)).heap.size:=by simp
 have hr1:(w'.setCell ⟨w.heap.size+1,7,none⟩ (.int .i64 g)).heap.size=w'.heap.size:=by simp
 have c0':(w'.setCell ⟨w.heap.size+1,7,none⟩ (.int .i64 g)).cell? ⟨w.heap.size,0,none⟩=some (pB (w.heap.size+1)):=by
  have:=c0
  simp only [World.cell?] at this ⊢
  rw [setCell_other _ (by show w.heap.size≠w.heap.size+1;omega)]
  exact this
 have hoth:∀ c,c≠w.heap.size+1→(w'.setCell ⟨w.heap.size+1,7,none⟩ (.int .i64 g)).heap[c]?=w'.heap[c]?:=fun c hc=>setCell_other _ hc
 have hblk:=setCell_block (j:=7) (.int .i64 g) hb9
 have hos:(w'.setCell ⟨w.heap.size+1,7,none⟩ (.int .i64 g)).os=w'.os∧(w'.setCell ⟨w.heap.size+1,7,none⟩ (.int .i64 g)).tape=w'.tape∧(w'.setCell ⟨w.heap.size+1,7,none⟩ (.int .i64 g)).output=w'.output:=⟨rfl,rfl,rfl⟩
 generalize (w'.setCell ⟨w.heap.size+1,7,none⟩ (.int .i64 g))=w2 at hr0 hr1 c0' hoth hblk hos
 show Leaves _ _ _ _ [] .returning w2
 refine ⟨.tuple #[pB (w.heap.size+1),.bool b],?_,hR _ _ ⟨_,fun c=>fp 9 c,rfl,by omega,?_,fun c hc=>?_,fun c hc=>?_,?_,?_,?_⟩⟩
 ·refine results_list (fn:=Go.Proofs.Tryz.f46) (vs:=[pB (w.heap.size+1),.bool b]) ?_
  show (List.mapM (resOf a.tmps) [.cell 2 57,.tmp 3]).run _ _=_
  simp only [List.mapM_cons,List.mapM_nil,resOf,t2,t3]
  have hl:(loadVar 57 ⟨w.heap.size,0,none⟩).run Go.Proofs.Tryz.prog w2=.ok (pB (w.heap.size+1)) w2:=by
   simp [loadVar,isAgg_cell (show cellT Go.Proofs.Tryz.prog 57=true by decide +kernel),c0']
  simp [asAddr,pB] at hl ⊢
  simp [hl]
 ·refine Own.tup (fun j c=>j=0∧fp 9 c) rfl (fun j d hj=>?_) (fun j c hc=>hc.2) (fun i j c hij hi hj=>hij (hi.1.trans hj.1.symm))
  match j with
  | 0 =>
   cases hj
   have stb:∀ c,stab (cxR v w A hA hg) fp G w' c→(A c∨(w.heap.size≤c∧c<w2.heap.size∧¬ fp 9 c))∧c≠w.heap.size+1:=fun c hc=>by
    refine ⟨?_,fun he=>hc.2.2 9 (he▸hF9)⟩
    by_cases hlt:c<w.heap.size
    ·exact .inl (hc.1.2 hlt)
    ·exact .inr ⟨by omega,by rw [hr1];exact hc.1.1,hc.2.2 9⟩
   refine Own.ptr (fun j c=>j≠7∧Fs9 j c) hblk (by rw [Array.size_setIfInBounds];exact hs9) (fun j d hj=>?_) ⟨rfl,hF9⟩ (fun j c hc=>⟨(hf9 j c hc.2).1,rfl,(hf9 j c hc.2).2⟩) (fun i j c hij hi hj=>hd9 i j c hij hi.2 hj.2)
   have own:∀ {i:Nat} {xx:D},i≠7→Own w' (stab (cxR v w A hA hg) fp G w') (cs9.getD i undef) xx (Fs9 i)→Own w2 (fun c=>A c∨(w.heap.size≤c∧c<w2.heap.size∧¬ fp 9 c)) ((cs9.setIfInBounds 7 (.int .i64 g)).getD i undef) xx (fun c=>i≠7∧Fs9 i c):=fun {i xx} h7 h=>by
    rw [getD_set_ne _ (Ne.symm h7)]
    exact h.mono (fun c hc=>(stb c hc).1) (fun c hc=>hoth c (stb c hc).2) (fun c hc=>hoth c (hf9 i c hc).1) (fun c hc=>⟨h7,hc⟩)
   match j with
   | 0 =>
    cases hj
    obtain ⟨e1,e2⟩:=pl_int (hc9 0 _ rfl)
    rw [getD_set_ne _ (by decide)]
    show Own _ _ (cs9.getD 0 undef) _ _
    rw [e1]
    exact .int e2
   | 1=>cases hj;exact own (by decide) (hc9 1 _ rfl)
   | 2=>cases hj;exact own (by decide) (hc9 2 _ rfl)
   | 3=>cases hj;exact own (by decide) (hc9 3 _ rfl)
   | 4=>cases hj;exact own (by decide) (hc9 4 _ rfl)
   | 5=>cases hj;exact own (by decide) (hc9 5 _ rfl)
   | 6=>cases hj;exact own (by decide) (hc9 6 _ rfl)
   | 7 =>
    cases hj
    rw [getD_set_eq _ (by rw [hs9];show 7<8;decide)]
    exact .int k2.2
   | _+8=>cases hj
  | 1=>cases hj;exact .bool
  | _+2=>cases hj
 ·have:=hp.lt 9 c hc
  rw [hr1]
  exact ⟨this.1,this.2.elim (fun h=>h.elim) (fun h=>h)⟩
 ·rw [hoth c (by omega)]
  exact hp.same c hc fun h=>h
 ·rw [hos.1];exact hp.os
 ·rw [hos.2.1];exact hp.tape
 ·rw [hos.2.2];exact hp.output
end Go.D3
namespace Go.D3
open Go
set_option maxRecDepth 100000
set_option maxHeartbeats 4000000
def Hid (p:Prop):Prop:=p
theorem seq4 {P:Program} {r0 r1 r2 r3 rest:Code} {Q:Exit→Act→World→Prop} {a:Act} {w:World} (h:∀ (X:Code) (Y:Exit→Act→World→Prop),Hid (X=rest∧Y=Q)→(Code.seq r0 (.seq r1 (.seq r2 (.seq r3 X)))).wp P Y a w):(Code.seq r0 (.seq r1 (.seq r2 (.seq r3 rest)))).wp P Q a w:=h rest Q ⟨rfl,rfl⟩
theorem w3_ok (w:World):W3 w (((w.alloc (Obj.cells #[Value.pointer (some { block:=w.heap.size+1,off:=0 })] 57)).alloc (Obj.cells #[.int .i64 0,.slice none 0 0,.slice none 0 0,.slice none 0 0,.slice none 0 0,.slice none 0 0,.slice none 0 0,.int .i64 0] 65)).alloc (Obj.cells #[Value.int IntKind.i64 0] 3)):=by
 have hs:∀ (x:World) (ob:Obj),(x.alloc ob).heap=x.heap.push ob:=fun _ _=>rfl
 refine ⟨by simp [hs],?_,?_,?_,fun b hb=>?_,rfl,rfl,rfl⟩
 ·simp only [hs,Array.getElem?_push,Array.size_push]
  rw [if_neg (by omega),if_neg (by omega),if_pos trivial]
  rfl
 ·simp only [hs,Array.getElem?_push,Array.size_push]
  rw [if_neg (by omega),if_pos trivial]
  rfl
 ·simp only [hs,Array.getElem?_push,Array.size_push]
  rw [if_pos trivial]
 ·simp only [hs,Array.getElem?_push,Array.size_push]
  rw [if_neg (by omega),if_neg (by omega),if_neg (by omega)]
theorem read_head {v:Value} {w:World} {A:Nat→Prop} {t:List UInt8} {R:Ending→World→Prop} {O:List D→Prop} {c:C} (hA:∀ b,A b→b<w.heap.size) (hg:GOk w A) (hv:Rd w A v (.str t))
  (hfit:fitC Go.Proofs.Tryz.prog 77 trR (tailC 4 (Go.Proofs.Tryz.f46.body.getD .skip)) c=true) (hvc:vcC Go.Proofs.Tryz.prog c (fun _=>False) ⟨fun _ _=>False,O⟩ (envR t))
  (hO:∀ a w' env,O env→Bm (cxR v w A hA hg) 77 trR env a w'→Leaves Go.Proofs.Tryz.prog Go.Proofs.Tryz.f46 a.tmps R a.defers .returning w'):Calls Go.Proofs.Tryz.prog 46 #[v] w R:=by
 have h1:=build_h
 have h2:=box_h
 have h3:=mf_h
 have h4:∀ t d o p,World.cell? { heap:=(w.alloc (Obj.cells #[Value.pointer none] 57)).heap.push (Obj.cells #[.int .i64 0,.slice none 0 0,.slice none 0 0,.slice none 0 0,.slice none 0 0,.slice none 0 0,.slice none 0 0,.int .i64 0] 65),tape:=t,drawn:=d,os:=o,output:=p } { block:=w.heap.size,off:=0 }=some (Value.pointer none):=fun _ _ _ _=>two_c w
 have h5:∀ t d o p,World.frozen? { heap:=(w.alloc (Obj.cells #[Value.pointer none] 57)).heap.push (Obj.cells #[.int .i64 0,.slice none 0 0,.slice none 0 0,.slice none 0 0,.slice none 0 0,.slice none 0 0,.slice none 0 0,.int .i64 0] 65),tape:=t,drawn:=d,os:=o,output:=p } { block:=w.heap.size,off:=0 }=false:=fun _ _ _ _=>two_f w
 have hb:=fun (W:World) (hW:W3 w W) (T:Array Value)=>bm0 (hA:=hA) (hg:=hg) (T:=T) hW hv
 have key:Hid (∀ (W:World) (T:Array Value) (ds:List Deferred),W3 w W→ds=(cxR v w A hA hg).dfs→T.size=77→T.getD 0 undef=v→T.getD 2 undef=pB w.heap.size→T.getD 3 undef=.bool false→T.getD 4 undef=pB (w.heap.size+2)→T.getD 5 undef=undef→T.getD 6 undef=undef→T.getD 7 undef=undef→T.getD 8 undef=undef→T.getD 9 undef=undef →
   (tailC 4 (Go.Proofs.Tryz.f46.body.getD .skip)).wp Go.Proofs.Tryz.prog (bodyPostD Go.Proofs.Tryz.prog Go.Proofs.Tryz.f46 R) { tmps:=T,defers:=ds } W):=by
  rintro W T _ hW rfl k0 k1 k2 k3 k4 k5 k6 k7 k8 k9
  exact vc_sound (by decide +kernel) c _ hfit hvc (hb W hW T k0 k1 k2 k3 k4 k5 k6 k7 k8 k9) (fun _ _ _ h=>h.elim) (fun _ _ _ _ h=>h.elim) fun a w' env h1 h2=>hO a w' env h1 h2
 clear hb hvc hfit hO hv
 go_enter_defers Go.Proofs.Tryz.func46,Go.Proofs.Tryz.ntmps46
 refine seq4 fun X Y hX=>?_
 go_wp2
 obtain ⟨rfl,rfl⟩:=hX
 exact key _ _ _ (w3_ok w) rfl rfl rfl rfl rfl rfl rfl rfl rfl rfl rfl
def RdQ (t:List UInt8) (rc:D) (gs:List D):Prop :=
 gs=[]∧match resJ t with
  | none=>∃ (s:Sch) (g:Int),rc=.o (.tup [.ptr (hcC s [] [] g),.bool false])
  | some p=>rc=.o (.tup [.ptr (hiC p.1 p.2.dt p.2.tx p.2.gd),.bool true])
theorem ret_impl_journalText_read (t:List UInt8) (ht:t.length≤1048576):RetE Go.Proofs.Tryz.prog 46 [.str t] [] (RdQ t):=by
 refine ⟨by decide +kernel,fun w A vs gv Fs hg hA hn hpre hgpre hgemp hFd hFs=>?_⟩
 have hvs:vs=#[vs.getD 0 undef]:=by
  match vs,hn with
  | ⟨[x]⟩,_=>rfl
 have hv:Rd w A (vs.getD 0 undef) (.str t):=bare_rd (hpre 0 _ rfl) trivial
 rw [hvs]
 have fin:∀ {rc:D} {b:Bool} {L:List D} {e:Ending} {w2:World},rc=.o (.tup [.ptr L,.bool b])→RdQ t rc []→endOk w A b L e w2→∃ (rc:D) (gs':List D) (v:Value) (F:Nat→Prop) (gv':Nat→Value) (Fs':Nat→Nat→Prop),RdQ t rc gs'∧e=.returned v∧w.heap.size≤w2.heap.size ∧
   ContOk w2 (fun b=>A b∨(w.heap.size≤b∧b<w2.heap.size∧¬ F b∧∀ j,¬ Fs' j b)) (RefOk w2 (nth gs') gv') v F rc∧(rc.isObj=false→∀ b,¬ F b) ∧
   (∀ k,ContOk w2 (fun b=>A b∨(w.heap.size≤b∧b<w2.heap.size∧¬ F b∧∀ j,¬ Fs' j b)) (RefOk w2 (nth gs') gv') (gv' k) (Fs' k) (nth gs' k))∧(∀ k,(nth gs' k).isObj=false→∀ b,¬ Fs' k b) ∧
   (∀ k,nth [] k≠.dead→gv' k=gv k) ∧
   (∀ b,F b→b<w2.heap.size∧(w.heap.size≤b∨∃ j,Fs j b)∧∀ j,¬ Fs' j b)∧(∀ j b,Fs' j b→b<w2.heap.size∧(w.heap.size≤b∨∃ j,Fs j b))∧(∀ i j b,i≠j→Fs' i b→¬ Fs' j b) ∧
   (∀ b,b<w.heap.size→(∀ j,¬ Fs j b)→w2.heap[b]?=w.heap[b]?)∧w2.os=w.os∧w2.tape=w.tape∧w2.output=w.output:=by
  rintro rc b L e w2 rfl hQ ⟨v,F,rfl,hs,hown,hF,hsame,hos,htape,hout⟩
  refine ⟨_,[],v,F,gv,fun _ _=>False,hQ,rfl,hs,?_,(fun h=>by cases h),fun k=>Pl.dead,fun _ _ _ h=>h,fun _ _=>rfl,fun b hb=>⟨(hF b hb).1,.inl (hF b hb).2,fun _ h=>h⟩,fun _ _ h=>h.elim,fun _ _ _ _ h=>h.elim,fun b hb _=>hsame b hb,hos,htape,hout⟩
  refine hown.mono (fun x hx=>?_) (fun _ _=>rfl) (fun _ _=>rfl) (fun _ h=>h)
  exact hx.imp_right fun h=>⟨h.1,h.2.1,h.2.2,fun _ h=>h⟩
 refine read_head hA hg hv ok_impl_journalText_read (vc_read t ht) fun a w' env ho hB=>?_
 unfold rdEnd at ho
 cases hr:resJ t with
 | none =>
  rw [hr] at ho
  obtain ⟨s,n,x,y,z,u,v,rfl⟩:=ho
  exact rd_leave hB fun e w2 h=>fin rfl ⟨rfl,by rw [hr];exact ⟨_,_,rfl⟩⟩ h
 | some p =>
  rw [hr] at ho
  obtain ⟨x,y,z,u,v,rfl⟩:=ho
  exact rd_leave hB fun e w2 h=>fin rfl ⟨rfl,by rw [hr];rfl⟩ h
end Go.D3
namespace Go.D3
open Go
set_option maxRecDepth 100000
set_option maxHeartbeats 4000000
def hcD:Option (Sch×Hs)→D
 | some p=>.tup [.ptr (hiC p.1 p.2.dt p.2.tx p.2.gd),.int .i64 0]
 | none=>.tup [.nilp,.int .i64 6]
theorem hist_walk (v:Value) (w:World) (Φ:Addr→Bool→World→Prop) (hc:Calls Go.Proofs.Tryz.prog 46 #[v] w fun e w'=>∃ a b,e=.returned (.tuple #[.pointer (some a),.bool b])∧Φ a b w') :
  Calls Go.Proofs.Tryz.prog 28 #[v] w fun e w'=>∃ a b,e=.returned (match b with | true=>.tuple #[.pointer (some a),.int .i64 0] | false=>.tuple #[.pointer none,.int .i64 6])∧Φ a b w':=by
 have hnot:∀ (x:Bool) (w:World),(Op.unary .not (.bool x)).run Go.Proofs.Tryz.prog w=.ok (.bool (!x)) w:=fun _ _=>rfl
 go_enter Go.Proofs.Tryz.func28,Go.Proofs.Tryz.ntmps28
 go_wp2_with (go_at_call 46;refine hc.mono ?_;rintro e w' ⟨a,b,rfl,hΦ⟩)
 ·rename_i hb
  go_ret2
  cases b
  ·exact ⟨a,false,rfl,hΦ⟩
  ·cases hb
 ·rename_i hb
  go_ret2
  cases b
  ·cases hb
  ·exact ⟨a,true,rfl,hΦ⟩
theorem own_tup2 {w:World} {A:Nat→Prop} {v:Value} {x y:D} {F:Nat→Prop} (h:Own w A v (.tup [x,y]) F):∃ (a b:Value) (Fs:Nat→Nat→Prop),v=.tuple #[a,b]∧Own w A a x (Fs 0)∧Own w A b y (Fs 1)∧(∀ j c,Fs j c→F c)∧∀ i j c,i≠j→Fs i c→¬ Fs j c:=by
 cases h with
 | @tup cs _ _ Fs hs hr hfs hdis =>
  have h2:cs.size=2:=hs
  obtain ⟨l⟩:=cs
  match l,h2 with
  | [a,b],_=>exact ⟨a,b,Fs,rfl,hr 0 _ rfl,hr 1 _ rfl,hfs,hdis⟩
theorem own_mk2 {w:World} {A:Nat→Prop} {a b:Value} {x y:D} {F:Nat→Prop} (h1:Own w A a x F) (h2:Own w A b y fun _=>False):Own w A (.tuple #[a,b]) (.tup [x,y]) F:=by
 refine .tup (fun j c=>j=0∧F c) rfl (fun j d hj=>?_) (fun j c h=>h.2) fun i j c hij hi hj=>hij (hi.1.trans hj.1.symm)
 match j with
 | 0=>cases hj;exact h1.mono (fun _ h=>h) (fun _ _=>rfl) (fun _ _=>rfl) fun _ h=>⟨rfl,h⟩
 | 1=>cases hj;exact h2.mono (fun _ h=>h) (fun _ _=>rfl) (fun _ _=>rfl) fun _ h=>h.elim
 | _+2=>cases hj
theorem ret_impl_historyCode (t:List UInt8) (ht:t.length≤1048576):Ret Go.Proofs.Tryz.prog 28 [.v (.str t)] (hcD (resJ t)):=by
 intro w A vs Fs hg hA hn hpre hdis hFs
 have hE:∀ j b,¬ Fs j b:=fun j b hb=>by
  have:=(hFs j b hb).2.2
  match j,this with
  | 0,_=>exact (hpre 0 _ rfl).2 b hb
 have hvs:vs=#[vs.getD 0 undef]:=by
  match vs,hn with
  | ⟨[x]⟩,_=>rfl
 have hv:Rd w A (vs.getD 0 undef) (.str t):=(hpre 0 _ rfl).1
 have hrd:=(ret_impl_journalText_read t ht).2 w A vs (fun _=>undef) (fun _ _=>False) hg hA hn (fun j a hj=>by
  match j with
  | 0=>cases hj;exact .rd hv
  | _+1=>cases hj) (fun k=>Pl.dead) (fun _ _ _ h=>h) (fun _ _ _ _ h=>h.elim) fun _ _ h=>h.elim
 rw [hvs] at hrd ⊢
 refine (hist_walk _ w (fun a b w'=>w.heap.size≤w'.heap.size∧(∀ c,c<w.heap.size→w'.heap[c]?=w.heap[c]?)∧w'.os=w.os∧w'.tape=w.tape∧w'.output=w.output ∧
  match resJ t with
  | none=>b=false
  | some p=>b=true∧∃ F:Nat→Prop,Own w' (fun x=>A x∨(w.heap.size≤x∧x<w'.heap.size∧¬ F x)) (.pointer (some a)) (.ptr (hiC p.1 p.2.dt p.2.tx p.2.gd)) F∧∀ x,F x→x<w'.heap.size∧w.heap.size≤x) (hrd.mono ?_)).mono ?_
 ·rintro e w' ⟨rc,gs',v,F,gv',Fs',⟨rfl,hq⟩,rfl,hsz,hc,_,hcg,hemp,_,hF,_,_,hsame,hos,htape,hout⟩
  have hF0:∀ j x,¬ Fs' j x:=fun j=>hemp j rfl
  cases hr:resJ t with
  | none =>
   rw [hr] at hq
   obtain ⟨s,g,rfl⟩:=hq
   obtain ⟨a,b,Fs2,rfl,h1,h2,_,_⟩:=own_tup2 (show Own w' _ v _ F from hc)
   cases h2
   cases h1
   exact ⟨_,_,rfl,hsz,fun c hc=>hsame c hc fun _ h=>h,hos,htape,hout,rfl⟩
  | some p =>
   rw [hr] at hq
   subst hq
   obtain ⟨a,b,Fs2,rfl,h1,h2,hf,_⟩:=own_tup2 (show Own w' _ v _ F from hc)
   cases h2
   have h3:=h1.mono (A':=fun x=>A x∨(w.heap.size≤x∧x<w'.heap.size∧¬ F x)) (fun x hx=>hx.imp_right fun h=>⟨h.1,h.2.1,h.2.2.1⟩) (fun _ _=>rfl) (fun _ _=>rfl) (hf 0)
   obtain ⟨q,rfl⟩:∃ q,a=.pointer (some q):=by
    cases h1
    exact ⟨_,rfl⟩
   exact ⟨_,_,rfl,hsz,fun c hc=>hsame c hc fun _ h=>h,hos,htape,hout,rfl,F,h3,fun x hx=>⟨(hF x hx).1,(hF x hx).2.1.elim (fun h=>h) fun ⟨_,h⟩=>h.elim⟩⟩
 ·rintro e w' ⟨a,b,rfl,hsz,hsame,hos,htape,hout,h⟩
  cases hr:resJ t with
  | none =>
   rw [hr] at h
   obtain rfl:b=false:=h
   refine ⟨_,fun _=>False,fun _ _=>False,rfl,hsz,own_mk2 .nilp (.int (okInt_has (k:=.i64) (n:=6) rfl)),fun j a hj=>?_,fun _ h=>h.elim,fun _ _ h=>h.elim,fun _ _ _ _ h=>h.elim,fun c hc _=>hsame c hc,hos,htape,hout⟩
   match j with
   | 0 =>
    cases hj
    exact fun _ h=>h
   | _+1=>cases hj
  | some p =>
   rw [hr] at h
   obtain ⟨rfl,F,h1,h2⟩:=h
   refine ⟨_,F,fun _ _=>False,rfl,hsz,own_mk2 (h1.mono (fun x hx=>hx.imp_right fun h=>⟨h.1,h.2.1,h.2.2,fun _ h=>h⟩) (fun _ _=>rfl) (fun _ _=>rfl) fun _ h=>h) (.int (okInt_has (k:=.i64) (n:=0) rfl)),fun j a hj=>?_,fun x hx=>⟨(h2 x hx).1,.inl (h2 x hx).2,fun _ h=>h⟩,fun _ _ h=>h.elim,fun _ _ _ _ h=>h.elim,fun c hc _=>hsame c hc,hos,htape,hout⟩
   match j with
   | 0 =>
    cases hj
    exact fun _ h=>h
   | _+1=>cases hj
theorem nv_hi (s:Sch) (dt:List Dat) (tx:List (List Chg)) (g:Nat):(D.ptr (hiC s dt tx g)).novw=true:=by
 simp only [hiC,D.novw,novwL,nv_ints,nv_lst nv_Pth,nv_lst nv_Dat,nv_lst (nv_lst nv_Chg),Bool.and_self]
theorem nv_hc (o:Option (Sch×Hs)):(hcD o).novw=true:=by
 cases o with
 | none=>rfl
 | some p =>
  have:=nv_hi p.1 p.2.dt p.2.tx p.2.gd
  simp only [D.novw] at this
  simp only [hcD,D.novw,novwL,this,Bool.and_self]
end Go.D3
