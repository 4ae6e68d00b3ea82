/- CONTRACTS: heads of journals,both sides. -/
import Derived.Test.YtgieggnpnepkfaaGreatDoorGD
import Derived.Test.YtgieggnpnepkfaaGreatDoorGC
namespace Go.D3
open Go
set_option maxRecDepth 100000
set_option maxHeartbeats 8000000
theorem mv_Pth {l:List Pth}:∀ e∈l.map Pth.d,e.mvE 2=true:=fun e he=>by obtain ⟨p,_,rfl⟩:=List.mem_map.1 he;rfl
def c_spec_ParseSchema:C := (.seq (.ops [1] [⟨none,.alc [.int .i64 0,.nils (.int .i64 0),.nils (.int .i64 0),.nils (.agg [.int .i64 0,ints []]),.nils (.agg [.int .i64 0,ints []])]⟩,⟨none,.asg 2 (.i 0)⟩] [(1,0)]) (.seq (.ops [] [⟨none,.mv (.v 0)⟩,⟨none,.call 77 [(.t 0)]⟩,⟨none,.asg 3 (.t 1)⟩] []) (.seq (.opc [] [⟨none,.mv (.v 3)⟩,⟨none,.len (.t 0)⟩,⟨none,.bin .neq (.t 1) (.i 3)⟩] [] (.t 2) (.seq (.ops [] [⟨none,.bld [.int .i64 0,.nils (.int .i64 0),.nils (.int .i64 0),.nils (.agg [.int .i64 0,ints []]),.nils (.agg [.int .i64 0,ints []])] []⟩,⟨none,.stn 5 (.v 1) (.t 0)⟩,⟨none,.asg 2 (.i 6)⟩] []) .ret) .skip) (.seq (.ops [] [⟨none,.mv (.v 3)⟩,⟨none,.idxA 1 (.t 0) (.i 1)⟩,⟨none,.ld (.t 1)⟩,⟨none,.dyn (.k (.fn 78 [])) [(.t 2)]⟩,⟨none,.mv (.t 3)⟩,⟨none,.ext 0 (.t 4)⟩,⟨none,.ext 1 (.t 4)⟩,⟨none,.ext 2 (.t 4)⟩,⟨none,.asg 4 (.t 5)⟩,⟨none,.asg 5 (.t 6)⟩,⟨none,.asg 6 (.t 7)⟩] []) (.seq (.ops [7] [⟨none,.mv (.v 3)⟩,⟨none,.idxA 1 (.t 0) (.i 0)⟩,⟨none,.ld (.t 1)⟩,⟨none,.call 60 [(.t 2)]⟩,⟨none,.mv (.v 4)⟩,⟨none,.mv (.v 5)⟩,⟨none,.bldS (.agg [.int .i64 0,ints []]) 0 []⟩,⟨none,.bldS (.agg [.int .i64 0,ints []]) 0 []⟩,⟨none,.bld [.int .i64 0,.nils (.int .i64 0),.nils (.int .i64 0),.nils (.agg [.int .i64 0,ints []]),.nils (.agg [.int .i64 0,ints []])] [(0,1,(.t 3)),(1,1,(.t 4)),(2,1,(.t 5)),(3,1,(.t 6)),(4,1,(.t 7))]⟩,⟨none,.alc [.int .i64 0,.nils (.int .i64 0),.nils (.int .i64 0),.nils (.agg [.int .i64 0,ints []]),.nils (.agg [.int .i64 0,ints []])]⟩,⟨none,.stn 5 (.t 9) (.t 8)⟩] [(7,9)]) (.seq (.ops [] [⟨none,.bldS (.str []) 0 []⟩,⟨none,.asg 8 (.t 0)⟩] []) (.seq (.opc [] [⟨none,.mv (.v 3)⟩,⟨none,.idxA 1 (.t 0) (.i 2)⟩,⟨none,.ld (.t 1)⟩,⟨none,.bin .neq (.t 2) (.k (.str [45]))⟩] [] (.t 3) (.ops [] [⟨none,.mv (.v 3)⟩,⟨none,.idxA 1 (.t 0) (.i 2)⟩,⟨none,.ld (.t 1)⟩,⟨none,.call 59 [(.t 2),(.k (.int .u8 32))]⟩,⟨none,.asg 8 (.t 3)⟩] []) .skip) (.seq (.opc [] [⟨none,.mv (.v 6)⟩,⟨none,.not (.t 0)⟩,⟨none,.mv (.t 1)⟩,⟨some (2,false),.mv (.v 8)⟩,⟨some (2,false),.len (.t 3)⟩,⟨some (2,false),.bin .gtr (.t 4) (.i 8)⟩,⟨none,.pick (.t 2) (.k (.bool true)) (.t 5)⟩] [] (.t 6) (.seq (.ops [] [⟨none,.bld [.int .i64 0,.nils (.int .i64 0),.nils (.int .i64 0),.nils (.agg [.int .i64 0,ints []]),.nils (.agg [.int .i64 0,ints []])] []⟩,⟨none,.stn 5 (.v 1) (.t 0)⟩,⟨none,.asg 2 (.i 6)⟩] []) .ret) .skip) (.seq (.seq (.ops [] [⟨none,.asg 9 (.i 0)⟩] []) (.block 0 (.loop (.seq (.opc [] [⟨none,.mv (.v 9)⟩,⟨none,.mv (.v 8)⟩,⟨none,.len (.t 1)⟩,⟨none,.bin .lss (.t 0) (.t 2)⟩] [] (.t 3) .skip (.exit 0)) (.seq (.block 1 (.seq (.ops [] [⟨none,.mv (.v 8)⟩,⟨none,.mv (.v 9)⟩,⟨none,.idxA 1 (.t 0) (.t 1)⟩,⟨none,.ld (.t 2)⟩,⟨none,.call 59 [(.t 3),(.k (.int .u8 61))]⟩,⟨none,.asg 10 (.t 4)⟩] []) (.seq (.opc [] [⟨none,.mv (.v 10)⟩,⟨none,.len (.t 0)⟩,⟨none,.bin .neq (.t 1) (.i 2)⟩] [] (.t 2) (.seq (.ops [] [⟨none,.bld [.int .i64 0,.nils (.int .i64 0),.nils (.int .i64 0),.nils (.agg [.int .i64 0,ints []]),.nils (.agg [.int .i64 0,ints []])] []⟩,⟨none,.stn 5 (.v 1) (.t 0)⟩,⟨none,.asg 2 (.i 6)⟩] []) .ret) .skip) (.seq (.ops [11] [⟨none,.mv (.v 10)⟩,⟨none,.idxA 1 (.t 0) (.i 0)⟩,⟨none,.ld (.t 1)⟩,⟨none,.dyn (.k (.fn 79 [])) [(.t 2)]⟩,⟨none,.mv (.t 3)⟩,⟨none,.ext 0 (.t 4)⟩,⟨none,.ext 1 (.t 4)⟩,⟨none,.alc [.int .i64 0,.nils (.int .i64 0)]⟩,⟨none,.stn 2 (.t 7) (.t 5)⟩,⟨none,.asg 12 (.t 6)⟩] [(11,7)]) (.seq (.ops [13] [⟨none,.mv (.v 10)⟩,⟨none,.idxA 1 (.t 0) (.i 1)⟩,⟨none,.ld (.t 1)⟩,⟨none,.dyn (.k (.fn 79 [])) [(.t 2)]⟩,⟨none,.mv (.t 3)⟩,⟨none,.ext 0 (.t 4)⟩,⟨none,.ext 1 (.t 4)⟩,⟨none,.alc [.int .i64 0,.nils (.int .i64 0)]⟩,⟨none,.stn 2 (.t 7) (.t 5)⟩,⟨none,.asg 14 (.t 6)⟩] [(13,7)]) (.seq (.opc [] [⟨none,.mv (.v 12)⟩,⟨none,.not (.t 0)⟩,⟨none,.mv (.t 1)⟩,⟨some (2,false),.mv (.v 14)⟩,⟨some (2,false),.not (.t 3)⟩,⟨none,.pick (.t 2) (.k (.bool true)) (.t 4)⟩] [] (.t 5) (.seq (.ops [] [⟨none,.bld [.int .i64 0,.nils (.int .i64 0),.nils (.int .i64 0),.nils (.agg [.int .i64 0,ints []]),.nils (.agg [.int .i64 0,ints []])] []⟩,⟨none,.stn 5 (.v 1) (.t 0)⟩,⟨none,.asg 2 (.i 6)⟩] []) .ret) .skip) (.seq (.alt [] (.two 3 4 [0,1,2,4,3,5,6,7,8] (.leaf [⟨none,.bldS (.agg [.int .i64 0,ints []]) 0 []⟩,⟨none,.fA 3 (.v 7)⟩,⟨none,.ld (.t 1)⟩,⟨none,.app 2 32 (.t 0) (.t 2)⟩,⟨none,.lda 2 (.v 11)⟩,⟨none,.bldS (.agg [.int .i64 0,ints []]) 1 [(0,(.t 4))]⟩,⟨none,.app 2 32 (.t 3) (.t 5)⟩,⟨none,.fA 3 (.v 7)⟩,⟨none,.st (.t 7) (.t 6)⟩] []) (.two 4 5 [0,1,2,3,5,4,6,7,8] (.leaf [⟨none,.bldS (.agg [.int .i64 0,ints []]) 0 []⟩,⟨none,.fA 3 (.v 7)⟩,⟨none,.ld (.t 1)⟩,⟨none,.lda 2 (.v 11)⟩,⟨none,.app 2 32 (.t 0) (.t 2)⟩,⟨none,.bldS (.agg [.int .i64 0,ints []]) 1 [(0,(.t 3))]⟩,⟨none,.app 2 32 (.t 4) (.t 5)⟩,⟨none,.fA 3 (.v 7)⟩,⟨none,.st (.t 7) (.t 6)⟩] []) (.leaf [⟨none,.bldS (.agg [.int .i64 0,ints []]) 0 []⟩,⟨none,.fA 3 (.v 7)⟩,⟨none,.ld (.t 1)⟩,⟨none,.lda 2 (.v 11)⟩,⟨none,.bldS (.agg [.int .i64 0,ints []]) 1 [(0,(.t 3))]⟩,⟨none,.app 2 32 (.t 0) (.t 2)⟩,⟨none,.app 2 32 (.t 5) (.t 4)⟩,⟨none,.fA 3 (.v 7)⟩,⟨none,.st (.t 7) (.t 6)⟩] [])))) (.alt [] (.two 3 4 [0,1,2,4,3,5,6,7,8] (.leaf [⟨none,.bldS (.agg [.int .i64 0,ints []]) 0 []⟩,⟨none,.fA 4 (.v 7)⟩,⟨none,.ld (.t 1)⟩,⟨none,.app 2 32 (.t 0) (.t 2)⟩,⟨none,.lda 2 (.v 13)⟩,⟨none,.bldS (.agg [.int .i64 0,ints []]) 1 [(0,(.t 4))]⟩,⟨none,.app 2 32 (.t 3) (.t 5)⟩,⟨none,.fA 4 (.v 7)⟩,⟨none,.st (.t 7) (.t 6)⟩] []) (.two 4 5 [0,1,2,3,5,4,6,7,8] (.leaf [⟨none,.bldS (.agg [.int .i64 0,ints []]) 0 []⟩,⟨none,.fA 4 (.v 7)⟩,⟨none,.ld (.t 1)⟩,⟨none,.lda 2 (.v 13)⟩,⟨none,.app 2 32 (.t 0) (.t 2)⟩,⟨none,.bldS (.agg [.int .i64 0,ints []]) 1 [(0,(.t 3))]⟩,⟨none,.app 2 32 (.t 4) (.t 5)⟩,⟨none,.fA 4 (.v 7)⟩,⟨none,.st (.t 7) (.t 6)⟩] []) (.leaf [⟨none,.bldS (.agg [.int .i64 0,ints []]) 0 []⟩,⟨none,.fA 4 (.v 7)⟩,⟨none,.ld (.t 1)⟩,⟨none,.lda 2 (.v 13)⟩,⟨none,.bldS (.agg [.int .i64 0,ints []]) 1 [(0,(.t 3))]⟩,⟨none,.app 2 32 (.t 0) (.t 2)⟩,⟨none,.app 2 32 (.t 5) (.t 4)⟩,⟨none,.fA 4 (.v 7)⟩,⟨none,.st (.t 7) (.t 6)⟩] []))))))))))) (.ops [] [⟨none,.mv (.v 9)⟩,⟨none,.bin .add (.t 0) (.i 1)⟩,⟨none,.asg 9 (.t 1)⟩] [])))))) (.seq (.opc [] [⟨none,.lda 5 (.v 7)⟩,⟨none,.call 80 [(.t 0)]⟩,⟨none,.not (.t 1)⟩,⟨none,.mv (.t 2)⟩,⟨some (3,false),.lda 5 (.v 7)⟩,⟨some (3,false),.call 33 [(.t 4)]⟩,⟨some (3,false),.mv (.v 0)⟩,⟨some (3,false),.bin .neq (.t 5) (.t 6)⟩,⟨none,.pick (.t 3) (.k (.bool true)) (.t 7)⟩] [] (.t 8) (.seq (.ops [] [⟨none,.bld [.int .i64 0,.nils (.int .i64 0),.nils (.int .i64 0),.nils (.agg [.int .i64 0,ints []]),.nils (.agg [.int .i64 0,ints []])] []⟩,⟨none,.stn 5 (.v 1) (.t 0)⟩,⟨none,.asg 2 (.i 6)⟩] []) .ret) .skip) (.seq (.ops [] [⟨none,.lda 5 (.v 7)⟩,⟨none,.stn 5 (.v 1) (.t 0)⟩,⟨none,.asg 2 (.i 0)⟩] []) .ret)))))))))))
def tr_spec_ParseSchema:List Nat:=[0,2,3,4,5,6,7,8,9,10,11,12,13,14,15]
def rs_spec_ParseSchema:List RS:=[.c 1 5 true,.t 2]
theorem ok_spec_ParseSchema:fnOk Go.Proofs.Tryz.prog Go.Proofs.Tryz.f58 tr_spec_ParseSchema c_spec_ParseSchema 1 rs_spec_ParseSchema=true:=by decide +kernel
theorem ret_spec_ParseSchema (t:List UInt8) (ht:t.length≤4294966000):Ret Go.Proofs.Tryz.prog 58 [.v (.str t)] (psD (psO t)):=by
 have no:(∀ q:Sch,q.ok=true→t≠q.txt)→D.tup [Sch.d Sch.zero,.int .i64 6]=psD (psO t):=fun h=>by rw [psO_none h];rfl
 refine ret_fn Go.Proofs.Tryz.func58 ok_spec_ParseSchema rfl (show 1<500 by decide) rfl ?_;unfold c_spec_ParseSchema tr_spec_ParseSchema rs_spec_ParseSchema;simp only [go_sem,Nat.reduceLT,Nat.reduceAdd,Nat.reduceSub,↓reduceIte]
 refine call_of (ret_spec_l04Parts t (by omega)) rfl (.inl (nv_strs _)) ?_
 have hps:∀ q:Sch,q.ok=true→t=q.txt→spl [32,124,32] 0 t=[Lib.itoa q.nd,partF (q.edL q.fr.length),partF (q.eqL q.lf.length)]:=fun q h1 h2=>by rw [h2];exact parts_txt (tok_of h1)
 have hpl:∀ x∈spl [32,124,32] 0 t,x.length≤t.length:=fun x hx=>spl_mem hx
 generalize spl [32,124,32] 0 t=ps at hps hpl
 simp only [go_sem,Nat.reduceLT,Nat.reduceAdd,Nat.reduceSub,Nat.reduceEqDiff,↓reduceIte]
 refine ⟨fun h=>no fun q h1 h2=>by rw [hps q h1 h2] at h;simp at h,fun h=>?_⟩
 have h3:ps.length=3:=by have:(ps.length:Int)=3:=by simpa using h
                         omega
 obtain ⟨p0,p1,p2,rfl⟩:∃ p0 p1 p2,ps=[p0,p1,p2]:=by
  match ps,h3 with
  | [a,b,c],_=>exact ⟨a,b,c,rfl⟩
 clear h h3
 have l1:=hpl p1 (by simp)
 have l2:=hpl p2 (by simp)
 simp only [go_sem,Nat.reduceAdd]
 refine ⟨by decide,e_call [] false (ret_spec_l04Ends p1 (by omega)) (by exact ⟨by decide,rfl⟩) (by repeat (first | exact trivial | refine ⟨rfl,?_⟩)) (by repeat (first | exact trivial | refine ⟨.inl rfl,?_⟩ | refine ⟨.inr ⟨rfl,rfl⟩,?_⟩)) ?_⟩
 rintro _ _ ⟨rfl,fr,to,e,rfl,he⟩
 refine ⟨(by repeat (first | exact trivial | refine ⟨(fun h=>by cases h),?_⟩)),(fun h=>by cases h),?_⟩
 have hdq:∀ q:Sch,q.ok=true→t=q.txt→(numO 9 p0=some q.nd.toNat∧0≤q.nd)∧(fr=q.fr∧to=q.to∧e=true)∧p2=partF (q.eqL q.lf.length):=fun q h1 h2=>by
  have h3:=hps q h1 h2
  simp only [List.cons.injEq,and_true] at h3
  have:=(tok_of h1).nd
  exact ⟨⟨by rw [h3.1];exact itoa_num this.1 (by rw [itoa_small this.1 (by omega)];decide),this.1⟩,he q h1 h3.2.1,h3.2.2⟩
 clear hps hpl he
 obtain ⟨n,hn,hnq⟩:∃ n:Int,valD (numO 9 p0)=.int .i64 n∧∀ q:Sch,q.ok=true→t=q.txt→n=q.nd:=by
  cases hd:numO 9 p0 with
  | none=>exact ⟨-1,rfl,fun q h1 h2=>by have:=(hdq q h1 h2).1.1;rw [hd] at this;cases this⟩
  | some m=>exact ⟨m,rfl,fun q h1 h2=>by obtain ⟨⟨a1,a2⟩,_⟩:=hdq q h1 h2;rw [hd] at a1;injection a1 with a1;omega⟩
 simp only [go_sem,Nat.reduceLT,Nat.reduceAdd,Nat.reduceSub,Nat.reduceBEq,↓reduceIte]
 refine ⟨by decide,call_of (ret_spec_l01Value p0) rfl (.inl (by cases numO 9 p0<;>rfl)) ?_⟩
 rw [hn]
 simp only [go_sem,Nat.reduceLT,Nat.reduceAdd,Nat.reduceSub,Nat.reduceEqDiff,Nat.reduceBEq,Nat.reduceLeDiff,↓reduceIte]
 have e3:([p0,p1,p2]:List (List UInt8)).getD (Int.toNat 2) []=p2:=rfl
 rw [e3]
 have hw2:∀ q:Sch,q.ok=true→t=q.txt→wordsF p2=q.eqL q.lf.length∧fr=q.fr∧to=q.to∧e=true:=fun q h1 h2=>by
  obtain ⟨_,a2,a3⟩:=hdq q h1 h2
  rw [a3];exact ⟨words_eq (tok_of h1),a2⟩
 have hn2:∀ x∈wordsF p2,x.length≤p2.length:=by
  unfold wordsF
  split
  ·exact fun x hx=>by cases hx
  ·exact fun x hx=>spl_mem hx
 clear hdq
 refine ⟨by decide,fun h=>⟨by decide,?_⟩,fun h=>?_⟩
 case' refine_1 =>
  have hw0:wordsF p2=spl [32] 0 p2:=by unfold wordsF;rw [if_neg (by simpa using h)]
  refine call_of (ret_spec_l01Split p2 32 (by omega)) rfl (.inl (nv_strs _)) ?_
  rw [← hw0]
  generalize wordsF p2=ws at hw2 hn2
  simp only [go_sem,Nat.reduceLT,Nat.reduceAdd,Nat.reduceSub,Nat.reduceEqDiff,Nat.reduceBEq,↓reduceIte]
  refine ⟨by simp,fun h1=>no fun q h2 h3=>?_,fun h1=>?_⟩
  ·obtain ⟨a1,_,_,a4⟩:=hw2 q h2 h3
   have:=(tok_of h2).l8
   rw [a1,eqL_len,a4] at h1
   simp at h1;omega
  have he:e=true∧ws.length≤8:=by simp at h1;exact ⟨h1.1,by omega⟩
 case' refine_2 =>
  have hw0:wordsF p2=[]:=by unfold wordsF;rw [if_pos (by simpa using h)]
  generalize wordsF p2=ws at hw2 hn2 hw0
  refine ⟨by simp,fun h1=>no fun q h2 h3=>?_,fun h1=>?_⟩
  ·rw [(hw2 q h2 h3).2.2.2] at h1
   simp at h1
  have he:e=true∧ws.length≤8:=by rw [hw0];simp at h1;exact ⟨h1,by simp⟩
  rw [← hw0]
 all_goals
  refine loop_set [10,11,12,13,14] (fun (p:Nat×List Pth×List Pth)=>[(7,.box [.int .i64 n,.o (ints fr),.o (ints to),.o (lst Pth.d Pth.zero p.2.1),.o (lst Pth.d Pth.zero p.2.2)]),(9,.int .i64 p.1)]) (fun p=>p.1≤ws.length∧p.2.1.length=p.1∧p.2.2.length=p.1∧∀ q:Sch,q.ok=true→t=q.txt→p.2.1=q.lf.take p.1∧p.2.2=q.rt.take p.1) (fun p=>ws.length-p.1) (0,[],[]) (by simp only [go_sem,Nat.reduceLT,↓reduceIte];rfl) ⟨Nat.zero_le _,rfl,rfl,fun _ _ _=>⟨rfl,rfl⟩⟩ rfl ?_
  rintro ⟨j,lf,rt⟩ ⟨hj,hlf,hrt,hq⟩
  simp only at hj hlf hrt hq
  simp only [go_sem,Nat.reduceLT,Nat.reduceAdd,Nat.reduceSub,Nat.reduceLeDiff,↓reduceIte]
  refine ⟨fun h2=>⟨h2,?_⟩,fun h2=>?_⟩
  ·have hx:ws.getD j []∈ws:=by rw [getD_lt h2];exact List.getElem_mem _
   have hxl:=hn2 _ hx
   refine call_of (ret_spec_l01Split (ws.getD j []) 61 (by omega)) rfl (.inl (nv_strs _)) ?_
   have hcq:∀ q:Sch,q.ok=true→t=q.txt→j<q.lf.length∧spl [61] 0 (ws.getD j [])=[(q.lf.getD j Pth.zero).txt,(q.rt.getD j Pth.zero).txt]:=fun q h3 h4=>by
    have hw:=(hw2 q h3 h4).1
    have hlt:j<q.lf.length:=by rw [hw,eqL_len] at h2;exact h2
    rw [hw,eqL_get hlt,spl_eq (tok_of h3) hlt]
    exact ⟨hlt,rfl⟩
   have hel:∀ x∈spl [61] 0 (ws.getD j []),x.length≤(ws.getD j []).length:=fun x hx=>spl_mem hx
   generalize spl [61] 0 (ws.getD j [])=es at hcq hel
   simp only [go_sem,Nat.reduceLT,Nat.reduceAdd,Nat.reduceSub,Nat.reduceEqDiff,Nat.reduceBEq,↓reduceIte]
   refine ⟨fun h3=>no fun q h4 h5=>by rw [(hcq q h4 h5).2] at h3;simp at h3,fun h3=>?_⟩
   obtain ⟨a,b,rfl⟩:=list2 (l:=es) (by have:(es.length:Int)=2:=by simpa using h3
                                       omega)
   have la:=hel a (by simp)
   have lb:=hel b (by simp)
   have hcq2:∀ q:Sch,q.ok=true→t=q.txt→j<q.lf.length∧a=(q.lf.getD j Pth.zero).txt∧b=(q.rt.getD j Pth.zero).txt:=fun q h4 h5=>by
    obtain ⟨a1,a2⟩:=hcq q h4 h5
    simp only [List.cons.injEq,and_true] at a2
    exact ⟨a1,a2⟩
   clear hcq hel
   simp only [go_sem,Nat.reduceAdd]
   refine ⟨by decide,e_call [] false (ret_spec_l36Read a (by omega)) (by exact ⟨by decide,rfl⟩) (by repeat (first | exact trivial | refine ⟨rfl,?_⟩)) (by repeat (first | exact trivial | refine ⟨.inl rfl,?_⟩ | refine ⟨.inr ⟨rfl,rfl⟩,?_⟩)) ?_⟩
   rintro _ _ ⟨rfl,p,e1,rfl,hp⟩
   refine ⟨(by repeat (first | exact trivial | refine ⟨(fun h=>by cases h),?_⟩)),(fun h=>by cases h),?_⟩
   simp only [go_sem,Nat.reduceLT,Nat.reduceAdd,Nat.reduceSub,Nat.reduceEqDiff,Nat.reduceBEq,↓reduceIte]
   refine ⟨by decide,e_call [] false (ret_spec_l36Read b (by omega)) (by exact ⟨by decide,rfl⟩) (by repeat (first | exact trivial | refine ⟨rfl,?_⟩)) (by repeat (first | exact trivial | refine ⟨.inl rfl,?_⟩ | refine ⟨.inr ⟨rfl,rfl⟩,?_⟩)) ?_⟩
   rintro _ _ ⟨rfl,p',e2,rfl,hp2⟩
   refine ⟨(by repeat (first | exact trivial | refine ⟨(fun h=>by cases h),?_⟩)),(fun h=>by cases h),?_⟩
   have hpp:∀ q:Sch,q.ok=true→t=q.txt→j<q.lf.length∧(p=q.lf.getD j Pth.zero∧e1=true)∧p'=q.rt.getD j Pth.zero∧e2=true:=fun q h4 h5=>by
    obtain ⟨a1,a2,a3⟩:=hcq2 q h4 h5
    exact ⟨a1,hp _ ((tok_of h4).eq j a1).1 a2,hp2 _ ((tok_of h4).eq j a1).2 a3⟩
   simp only [go_sem,Nat.reduceLT,Nat.reduceAdd,Nat.reduceSub,Nat.reduceEqDiff,Nat.reduceBEq,↓reduceIte]
   refine ⟨by simp,fun h4=>no fun q h5 h6=>?_,fun h4=>?_⟩
   ·obtain ⟨_,⟨_,a2⟩,_,a4⟩:=hpp q h5 h6
    rw [a2,a4] at h4;cases h4
   refine ⟨mv_Pth,by rw [List.length_map];omega,by omega,mv_Pth,by rw [List.length_map];omega,by omega,(j+1,lf++[p],rt++[p']),⟨h2,by simp [hlf],by simp [hrt],fun q h5 h6=>?_⟩,by show ws.length-(j+1)<_;omega,by rw [wrap_small (by omega) (by omega)];rfl⟩
   obtain ⟨a1,⟨a2,_⟩,a3,_⟩:=hpp q h5 h6
   obtain ⟨q1,q2⟩:=hq q h5 h6
   show lf++_=q.lf.take (j+1)∧rt++_=q.rt.take (j+1)
   rw [take_snoc a1 Pth.zero,take_snoc (by rw [(tok_of h5).rt];exact a1) Pth.zero,q1,q2,a2,a3]
   exact ⟨rfl,rfl⟩
  ·have hu:∀ q:Sch,q.ok=true→t=q.txt→(⟨n,fr,to,lf,rt⟩:Sch)=q:=fun q h3 h4=>by
    obtain ⟨a1,a2,a3,_⟩:=hw2 q h3 h4
    obtain ⟨a4,a5⟩:=hq q h3 h4
    have:=(tok_of h3).rt
    rw [a1,eqL_len] at h2
    rw [List.take_of_length_le (by omega)] at a4 a5
    rw [a2,a3,a4,a5,hnq q h3 h4]
   refine call_of (ret_spec_IsSchema ⟨n,fr,to,lf,rt⟩) rfl (.inl rfl) ?_
   simp only [go_sem,Nat.reduceLT,Nat.reduceAdd,Nat.reduceSub,↓reduceIte]
   cases hok:(⟨n,fr,to,lf,rt⟩:Sch).ok with
   | false =>
    refine callg_of (res:=.str []) (fun h=>by cases h) rfl (fun h=>by cases h) (.inl rfl) ?_
    simp only [go_sem,Nat.reduceLT,Nat.reduceAdd,Nat.reduceSub,Nat.reduceEqDiff,Nat.reduceBEq,Nat.reduceLeDiff,↓reduceIte]
    exact no fun q h3 h4=>by rw [hu q h3 h4,h3] at hok;cases hok
   | true =>
    refine callg_of (fun _=>ret_spec_l36Whole ⟨n,fr,to,lf,rt⟩ (tok_of hok)) rfl (fun h=>h) (.inl rfl) ?_
    simp only [go_sem,Nat.reduceLT,Nat.reduceAdd,Nat.reduceSub,Nat.reduceEqDiff,Nat.reduceBEq,Nat.reduceLeDiff,↓reduceIte]
    refine ⟨fun h3=>no fun q h4 h5=>?_,fun h3=>?_⟩
    ·rw [hu q h4 h5,← h5] at h3;simp at h3
    ·rw [psO_some hok (by simpa using Eq.symm (by simpa using h3)) hu]
     rfl
end Go.D3
namespace Go.D3
open Go
set_option maxRecDepth 100000
def c_spec_l36Broken:C := (.seq (.ops [5] [⟨none,.boxv 5 (.v 0)⟩,⟨none,.asg 3 (.i 0)⟩,⟨none,.asg 4 (.i 0)⟩] [(5,0)]) (.seq (.seq (.ops [] [⟨none,.asg 6 (.i 0)⟩] []) (.block 0 (.loop (.seq (.opc [] [⟨none,.mv (.v 6)⟩,⟨none,.fA 3 (.v 5)⟩,⟨none,.ld (.t 1)⟩,⟨none,.len (.t 2)⟩,⟨none,.bin .lss (.t 0) (.t 3)⟩] [] (.t 4) .skip (.exit 0)) (.seq (.block 1 (.seq (.ops [] [⟨none,.asg 7 (.i 0)⟩] []) (.block 2 (.loop (.seq (.opc [] [⟨none,.mv (.v 7)⟩,⟨none,.mv (.v 1)⟩,⟨none,.fA 3 (.v 5)⟩,⟨none,.ld (.t 2)⟩,⟨none,.mv (.v 6)⟩,⟨none,.idxA 2 (.t 3) (.t 4)⟩,⟨none,.fA 0 (.t 5)⟩,⟨none,.ld (.t 6)⟩,⟨none,.idxA 1 (.t 1) (.t 7)⟩,⟨none,.ld (.t 8)⟩,⟨none,.bin .lss (.t 0) (.t 9)⟩] [] (.t 10) .skip (.exit 2)) (.seq (.block 3 (.opc [] [⟨none,.mv (.v 2)⟩,⟨none,.fA 3 (.v 5)⟩,⟨none,.ld (.t 1)⟩,⟨none,.mv (.v 6)⟩,⟨none,.idxA 2 (.t 2) (.t 3)⟩,⟨none,.fA 1 (.t 4)⟩,⟨none,.ld (.t 5)⟩,⟨none,.mv (.v 7)⟩,⟨none,.call 92 [(.t 0),(.t 6),(.t 7)]⟩,⟨none,.mv (.v 2)⟩,⟨none,.fA 4 (.v 5)⟩,⟨none,.ld (.t 10)⟩,⟨none,.mv (.v 6)⟩,⟨none,.idxA 2 (.t 11) (.t 12)⟩,⟨none,.fA 1 (.t 13)⟩,⟨none,.ld (.t 14)⟩,⟨none,.mv (.v 7)⟩,⟨none,.call 92 [(.t 9),(.t 15),(.t 16)]⟩,⟨none,.bin .neq (.t 8) (.t 17)⟩] [] (.t 18) (.seq (.ops [] [⟨none,.mv (.v 6)⟩,⟨none,.mv (.v 7)⟩,⟨none,.asg 3 (.t 0)⟩,⟨none,.asg 4 (.t 1)⟩] []) .ret) .skip)) (.ops [] [⟨none,.mv (.v 7)⟩,⟨none,.bin .add (.t 0) (.i 1)⟩,⟨none,.asg 7 (.t 1)⟩] []))))))) (.ops [] [⟨none,.mv (.v 6)⟩,⟨none,.bin .add (.t 0) (.i 1)⟩,⟨none,.asg 6 (.t 1)⟩] [])))))) (.seq (.ops [] [⟨none,.asg 3 (.i (-1))⟩,⟨none,.asg 4 (.i 0)⟩] []) .ret)))
def tr_spec_l36Broken:List Nat:=[0,1,2,6,7,3,8,9]
def rs_spec_l36Broken:List RS:=[.t 3,.t 4]
theorem ok_spec_l36Broken:fnOk Go.Proofs.Tryz.prog Go.Proofs.Tryz.f70 tr_spec_l36Broken c_spec_l36Broken 3 rs_spec_l36Broken=true:=by decide +kernel
theorem ret_spec_l36Broken (s:Sch) (sz:List Int) (mp:List (List Int)) (hok:s.brkOk sz mp) (hsz:∀ x∈sz,x≤4611686018427387900):Ret Go.Proofs.Tryz.prog 70 [.v (Sch.d s),.v (ints sz),.v (intss mp)] (brkD (s.brk sz mp s.lf.length)):=by
 refine ret_wf fun hw=>?_
 simp only [argsWf,wfd_lst,Sch.d,Sch.cells,D.wfd,wfdL] at hw
 have hl:s.lf.length≤maxLen:=hw.1.2.2.2.1.1
 obtain ⟨hrt,hok⟩:=hok
 refine ret_fn Go.Proofs.Tryz.func70 ok_spec_l36Broken rfl (show 3<500 by decide) rfl ?_;unfold c_spec_l36Broken tr_spec_l36Broken rs_spec_l36Broken;simp only [go_sem,Nat.reduceLT,Nat.reduceAdd,Nat.reduceSub,↓reduceIte]
 refine loop_set [7] (fun (i:Nat)=>[(6,.int .i64 i)]) (fun i=>i≤s.lf.length∧s.brk sz mp i=none) (fun i=>s.lf.length-i) 0 (by simp only [go_sem,Nat.reduceLT,↓reduceIte];rfl) ⟨Nat.zero_le _,rfl⟩ rfl ?_
 rintro i ⟨hi,ha⟩
 simp only [go_sem,Nat.reduceLT,Nat.reduceAdd,Nat.reduceSub,↓reduceIte]
 refine ⟨fun h=>?_,fun h=>?_⟩
 ·obtain ⟨hst,hrow⟩:=hok i h
  have hms:sz.getD (s.lf.getD i Pth.zero).st.toNat 0≤4611686018427387900:=by
   have hlt:(s.lf.getD i Pth.zero).st.toNat<sz.length:=by omega
   rw [getD_lt hlt];exact hsz _ (List.getElem_mem _)
  have hbrk:∀ o,brkRow mp (s.lf.getD i Pth.zero).ed (s.rt.getD i Pth.zero).ed (sz.getD (s.lf.getD i Pth.zero).st.toNat 0).toNat=o→(match o with | some r=>s.brk sz mp s.lf.length=some (i,r) | none=>s.brk sz mp (i+1)=none):=by
   intro o ho
   cases o with
   | some r=>exact first_hit h ha (by rw [ho];rfl)
   | none=>exact first_step ha (by rw [ho];rfl)
  refine loop_set [] (fun (r:Nat)=>[(7,.int .i64 r)]) (fun r=>r≤(sz.getD (s.lf.getD i Pth.zero).st.toNat 0).toNat∧brkRow mp (s.lf.getD i Pth.zero).ed (s.rt.getD i Pth.zero).ed r=none) (fun r=>(sz.getD (s.lf.getD i Pth.zero).st.toNat 0).toNat-r) 0 (by simp only [go_sem];rfl) ⟨Nat.zero_le _,rfl⟩ rfl ?_
  rintro r ⟨hr,hb⟩
  simp only [go_sem,Nat.reduceLT,Nat.reduceAdd,Nat.reduceSub,↓reduceIte]
  refine ⟨h,hst,fun h2=>?_,fun h2=>?_⟩
  ·obtain ⟨o1,o2⟩:=hrow r h2
   refine ⟨h,call_of (ret_spec_l36Walk mp _ r o1) rfl (.inl rfl) ?_⟩
   simp only [go_sem,Nat.reduceLT,Nat.reduceAdd,Nat.reduceSub,↓reduceIte]
   refine ⟨by omega,call_of (ret_spec_l36Walk mp _ r o2) rfl (.inl rfl) ?_⟩
   simp only [go_sem,Nat.reduceLT,Nat.reduceAdd,Nat.reduceSub,↓reduceIte]
   refine ⟨fun h3=>?_,fun h3=>⟨r+1,⟨by omega,first_step hb (if_pos (by simpa using h3))⟩,by omega,by rw [wrap_small (by omega) (by omega)];rfl⟩⟩
   have:=hbrk _ (first_hit (show r<(sz.getD (s.lf.getD i Pth.zero).st.toNat 0).toNat by omega) hb (if_neg (by simpa using h3)))
   simp only at this
   rw [this];rfl
  ·have:=hbrk none (by rw [show (sz.getD (s.lf.getD i Pth.zero).st.toNat 0).toNat=r by omega];exact hb)
   simp only at this
   exact ⟨i+1,⟨h,this⟩,by omega,by rw [wrap_lt h hl]⟩
 ·rw [show i=s.lf.length by omega] at ha
  rw [ha];rfl
def c_spec_l39Empty:C := (.seq (.ops [2,1] [⟨none,.boxv 5 (.v 0)⟩,⟨none,.alc [.nils (.int .i64 0),.nils (ints [])]⟩] [(2,0),(1,1)]) (.seq (.ops [3] [⟨none,.fA 0 (.v 2)⟩,⟨none,.ld (.t 0)⟩,⟨none,.mkS (.int .i64 0) 8 (.t 1) (.t 1)⟩,⟨none,.bldS (ints []) 0 []⟩,⟨none,.bld [.nils (.int .i64 0),.nils (ints [])] [(0,1,(.t 2)),(1,1,(.t 3))]⟩,⟨none,.alc [.nils (.int .i64 0),.nils (ints [])]⟩,⟨none,.stn 2 (.t 5) (.t 4)⟩] [(3,5)]) (.seq (.seq (.ops [] [⟨none,.asg 4 (.i 0)⟩] []) (.block 0 (.loop (.seq (.opc [] [⟨none,.mv (.v 4)⟩,⟨none,.fA 1 (.v 2)⟩,⟨none,.ld (.t 1)⟩,⟨none,.len (.t 2)⟩,⟨none,.bin .lss (.t 0) (.t 3)⟩] [] (.t 4) .skip (.exit 0)) (.seq (.block 1 (.ops [] [⟨none,.fA 1 (.v 3)⟩,⟨none,.ld (.t 0)⟩,⟨none,.bldS (.int .i64 0) 0 []⟩,⟨none,.bldS (ints []) 1 [(0,(.t 2))]⟩,⟨none,.app 1 24 (.t 1) (.t 3)⟩,⟨none,.fA 1 (.v 3)⟩,⟨none,.st (.t 5) (.t 4)⟩] [])) (.ops [] [⟨none,.mv (.v 4)⟩,⟨none,.bin .add (.t 0) (.i 1)⟩,⟨none,.asg 4 (.t 1)⟩] [])))))) (.seq (.ops [] [⟨none,.lda 2 (.v 3)⟩,⟨none,.stn 2 (.v 1) (.t 0)⟩] []) .ret))))
def tr_spec_l39Empty:List Nat:=[0,2,1,3,4]
def rs_spec_l39Empty:List RS:=[.c 1 2 true]
theorem ok_spec_l39Empty:fnOk Go.Proofs.Tryz.prog Go.Proofs.Tryz.f42 tr_spec_l39Empty c_spec_l39Empty 1 rs_spec_l39Empty=true:=by decide +kernel
theorem ret_spec_l39Empty (s:Sch) (hn : 0≤s.nd) (hn8:s.nd≤8) (h8:s.fr.length≤8):Ret Go.Proofs.Tryz.prog 42 [.v (Sch.d s)] (Dat.d ⟨List.replicate s.nd.toNat 0,List.replicate s.fr.length []⟩):=by
 refine ret_fn Go.Proofs.Tryz.func42 ok_spec_l39Empty rfl (show 1<500 by decide) rfl ?_;unfold c_spec_l39Empty tr_spec_l39Empty rs_spec_l39Empty;simp only [go_sem,Nat.reduceLT,Nat.reduceAdd,Nat.reduceSub,Nat.reduceEqDiff,Nat.reduceBEq,Nat.reduceLeDiff,↓reduceIte]
 refine ⟨by omega,?_⟩
 refine loop_set [] (fun (k:Nat)=>[(4,.int .i64 k),(3,.box [.o (ints (List.replicate s.nd.toNat 0)),.o (intss (List.replicate k []))])]) (fun k=>k≤s.fr.length) (fun k=>s.fr.length-k) 0 (by simp only [go_sem];rfl) (Nat.zero_le _) rfl ?_
 intro k hk
 simp only [go_sem,Nat.reduceLT,Nat.reduceAdd,Nat.reduceSub,Nat.reduceEqDiff,Nat.reduceBEq,Nat.reduceLeDiff,↓reduceIte]
 rw [List.length_replicate]
 refine ⟨fun h=>⟨by omega,k+1,h,by omega,?_⟩,fun h=>by rw [show k=s.fr.length by omega]⟩
 rw [wrap_lt h (by simp only [maxLen];omega),← List.replicate_succ']
theorem rows_whole {s:Sch} {d:Dat} (_:SOk s) (hd:DOk s d):s.rowsB d.sz d.mp=(List.range d.mp.length).all fun e=>!(d.mp.getD e []).contains (-1):=by
 have h17:mapB 17 d.sz=true:=by
  unfold mapB
  rw [List.all_eq_true]
  intro x hx
  obtain ⟨j,hj,rfl⟩:=List.getElem_of_mem hx
  have:=hd.szr j hj
  rw [getD_lt hj] at this
  simp only [Bool.and_eq_true,decide_eq_true_eq];omega
 have h1:((d.sz.length:Int) == s.nd&&mapB 17 d.sz&&(d.mp.length == s.fr.length))=true:=by rw [h17,hd.nd,hd.mp];simp
 unfold Sch.rowsB
 rw [h1,Bool.true_and]
 have:∀ e,e∈List.range d.mp.length→s.mapOk d.sz d.mp e=!(d.mp.getD e []).contains (-1):=by
  intro e he
  have he:=List.mem_range.1 he
  unfold Sch.mapOk
  have hlen:(((d.mp.getD e []).length:Int) == d.sz.getD (s.fr.getD e 0).toNat 0)=true:=by rw [beq_iff_eq];exact hd.len e he
  rw [hlen,Bool.true_and,Bool.eq_iff_iff,Bool.not_eq_true',mapB,List.all_eq_true]
  constructor
  ·intro h
   rw [← Bool.not_eq_true,List.contains_iff_mem]
   intro hm
   have:=h _ hm
   simp at this
  ·intro h x hx
   obtain ⟨j,hj,rfl⟩:=List.getElem_of_mem hx
   have hv:=hd.val e j he hj
   rw [getD_lt hj] at hv
   have hne:(d.mp.getD e [])[j]≠-1:=fun hh=>by
    rw [← Bool.not_eq_true,List.contains_iff_mem] at h
    exact h (hh▸List.getElem_mem hj)
   simp only [Bool.and_eq_true,decide_eq_true_eq]
   omega
 rw [Bool.eq_iff_iff,List.all_eq_true,List.all_eq_true]
 exact ⟨fun h e he=>this e he▸h e he,fun h e he=>by rw [this e he];exact h e he⟩
def c_spec_l39Whole:C := (.seq (.ops [3,4] [⟨none,.boxv 5 (.v 0)⟩,⟨none,.boxv 2 (.v 1)⟩,⟨none,.asg 2 (.k (.bool false))⟩] [(3,0),(4,1)]) (.seq (.seq (.ops [] [⟨none,.asg 5 (.i 0)⟩] []) (.block 0 (.loop (.seq (.opc [] [⟨none,.mv (.v 5)⟩,⟨none,.fA 1 (.v 4)⟩,⟨none,.ld (.t 1)⟩,⟨none,.len (.t 2)⟩,⟨none,.bin .lss (.t 0) (.t 3)⟩] [] (.t 4) .skip (.exit 0)) (.seq (.block 1 (.opc [] [⟨none,.fA 1 (.v 4)⟩,⟨none,.ld (.t 0)⟩,⟨none,.mv (.v 5)⟩,⟨none,.idxA 1 (.t 1) (.t 2)⟩,⟨none,.ld (.t 3)⟩,⟨none,.call 69 [(.t 4),(.i (-1))]⟩] [] (.t 5) (.seq (.ops [] [⟨none,.asg 2 (.k (.bool false))⟩] []) .ret) .skip)) (.ops [] [⟨none,.mv (.v 5)⟩,⟨none,.bin .add (.t 0) (.i 1)⟩,⟨none,.asg 5 (.t 1)⟩] [])))))) (.seq (.ops [] [⟨none,.lda 5 (.v 3)⟩,⟨none,.fA 0 (.v 4)⟩,⟨none,.ld (.t 1)⟩,⟨none,.fA 1 (.v 4)⟩,⟨none,.ld (.t 3)⟩,⟨none,.call 70 [(.t 0),(.t 2),(.t 4)]⟩,⟨none,.mv (.t 5)⟩,⟨none,.ext 0 (.t 6)⟩,⟨none,.ext 1 (.t 6)⟩,⟨none,.asg 6 (.t 7)⟩,⟨none,.mv (.t 8)⟩] []) (.seq (.ops [] [⟨none,.mv (.v 6)⟩,⟨none,.bin .lss (.t 0) (.i 0)⟩,⟨none,.asg 2 (.t 1)⟩] []) .ret))))
def tr_spec_l39Whole:List Nat:=[0,1,4,2,3,5,6]
def rs_spec_l39Whole:List RS:=[.t 2]
theorem ok_spec_l39Whole:fnOk Go.Proofs.Tryz.prog Go.Proofs.Tryz.f54 tr_spec_l39Whole c_spec_l39Whole 2 rs_spec_l39Whole=true:=by decide +kernel
theorem ret_spec_l39Whole (s:Sch) (d:Dat) (h:s.ok=true) (hd:DOk s d):Ret Go.Proofs.Tryz.prog 54 [.v (Sch.d s),.v (Dat.d d)] (.bool (d.wholeB s)):=by
 have hs:=sok_of (ok_len h).1
 have hm:=hd.mp
 have h8:=hs.f8
 refine ret_fn Go.Proofs.Tryz.func54 ok_spec_l39Whole rfl (show 2<500 by decide) rfl ?_;unfold c_spec_l39Whole tr_spec_l39Whole rs_spec_l39Whole;simp only [go_sem,Nat.reduceLT,Nat.reduceAdd,Nat.reduceSub,↓reduceIte]
 refine loop_set [6] (fun (k:Nat)=>[(5,.int .i64 k)]) (fun k=>k≤d.mp.length∧(List.range k).all (fun e=>!(d.mp.getD e []).contains (-1))=true) (fun k=>d.mp.length-k) 0 (by simp only [go_sem,Nat.reduceLT,↓reduceIte];rfl) ⟨Nat.zero_le _,rfl⟩ rfl ?_
 rintro k ⟨hk,ha⟩
 simp only [go_sem,Nat.reduceLT,Nat.reduceAdd,Nat.reduceSub,Nat.reduceLeDiff,↓reduceIte]
 refine ⟨fun h2=>⟨h2,call_of (ret_spec_l01Has (d.mp.getD k []) (-1) (by have:=hd.mlen hs k;omega)) rfl (.inl rfl) ?_⟩,fun h2=>?_⟩
 ·simp only [go_sem,Nat.reduceLT,Nat.reduceAdd,Nat.reduceSub,↓reduceIte]
  have hR:=rows_whole hs hd
  refine ⟨fun h3=>?_,fun h3=>⟨k+1,⟨h2,?_⟩,by omega,by rw [wrap_lt h2 (by simp only [maxLen];omega)]⟩⟩
  ·unfold Dat.wholeB
   rw [hR]
   symm
   rw [Bool.and_eq_false_iff,List.all_eq_false]
   exact .inl ⟨k,List.mem_range.2 h2,by rw [h3];simp⟩
  ·rw [List.range_succ,List.all_append,ha,Bool.true_and,List.all_cons,h3];rfl
 ·have hR:=rows_whole hs hd
  rw [show k=d.mp.length by omega] at ha
  rw [ha] at hR
  refine call_of (ret_spec_l36Broken s d.sz d.mp (brk_ok h hR) (fun x hx=>by
   obtain ⟨j,hj,rfl⟩:=List.getElem_of_mem hx
   have:=hd.szr j hj
   rw [getD_lt hj] at this
   omega)) rfl (.inl (by cases s.brk d.sz d.mp s.lf.length<;>rfl)) ?_
  unfold Dat.wholeB
  rw [hR]
  cases s.brk d.sz d.mp s.lf.length with
  | none =>
   simp only [brkD]
   simp only [go_sem,Nat.reduceLT,Nat.reduceAdd,Nat.reduceSub,↓reduceIte]
   all_goals simp
  | some p =>
   obtain ⟨i,r⟩:=p
   simp only [brkD]
   simp only [go_sem,Nat.reduceLT,Nat.reduceAdd,Nat.reduceSub,↓reduceIte]
   all_goals simp
   all_goals omega
end Go.D3
namespace Go.D3
open Go
set_option maxRecDepth 100000
set_option maxHeartbeats 2000000
theorem set_cell {mp:List (List Int)} {e i:Nat} {v:Int}:D.slice (ints []) ((mp.map ints).set e ((lst (D.int .i64) 0 (mp.getD e [])).setKid i 0 (.int .i64 v)))=intss (mp.set e ((mp.getD e []).set i v)):=by
 have e1:(lst (D.int .i64) 0 (mp.getD e [])).setKid i 0 (.int .i64 v)=lst (D.int .i64) 0 ((mp.getD e []).set i v):=by
  unfold lst
  rw [List.map_set]
  show D.slice _ (List.set _ _ (setc _ 0 _))=_
  congr 2
  rw [List.getD_eq_getElem?_getD,List.getElem?_map]
  cases (mp.getD e [])[i]?<;>rfl
 rw [e1]
 exact lst_fold (f:=ints) (d:=[]) (l:=mp) (i:=e) (x:=(mp.getD e []).set i v)
def c_spec_l39Apply:C := (.seq (.ops [5,6,7,3] [⟨none,.boxv 5 (.v 0)⟩,⟨none,.boxv 2 (.v 1)⟩,⟨none,.boxv 4 (.v 2)⟩,⟨none,.alc [.nils (.int .i64 0),.nils (ints [])]⟩,⟨none,.asg 4 (.k (.bool false))⟩] [(5,0),(6,1),(7,2),(3,3)]) (.seq (.ops [8] [⟨none,.fA 0 (.v 6)⟩,⟨none,.ld (.t 0)⟩,⟨none,.call 26 [(.t 1)]⟩,⟨none,.fA 1 (.v 6)⟩,⟨none,.ld (.t 3)⟩,⟨none,.call 27 [(.t 4)]⟩,⟨none,.bld [.nils (.int .i64 0),.nils (ints [])] [(0,1,(.t 2)),(1,1,(.t 5))]⟩,⟨none,.alc [.nils (.int .i64 0),.nils (ints [])]⟩,⟨none,.stn 2 (.t 7) (.t 6)⟩] [(8,7)]) (.seq (.block 0 (.opc [] [⟨none,.fA 0 (.v 7)⟩,⟨none,.ld (.t 0)⟩,⟨none,.bin .eql (.t 1) (.i 1)⟩,⟨none,.mv (.t 2)⟩,⟨some (3,true),.fA 2 (.v 7)⟩,⟨some (3,true),.ld (.t 4)⟩,⟨some (3,true),.bin .eql (.t 5) (.i 0)⟩,⟨none,.pick (.t 3) (.t 6) (.k (.bool false))⟩,⟨none,.mv (.t 7)⟩,⟨some (8,true),.fA 3 (.v 7)⟩,⟨some (8,true),.ld (.t 9)⟩,⟨some (8,true),.bin .eql (.t 10) (.i 0)⟩,⟨none,.pick (.t 8) (.t 11) (.k (.bool false))⟩,⟨none,.mv (.t 12)⟩,⟨some (13,true),.fA 1 (.v 7)⟩,⟨some (13,true),.ld (.t 14)⟩,⟨some (13,true),.fA 0 (.v 5)⟩,⟨some (13,true),.ld (.t 16)⟩,⟨some (13,true),.bin .sub (.t 17) (.i 1)⟩,⟨some (13,true),.call 30 [(.t 15),(.i 0),(.t 18)]⟩,⟨none,.pick (.t 13) (.t 19) (.k (.bool false))⟩,⟨none,.mv (.t 20)⟩,⟨some (21,true),.fA 0 (.v 6)⟩,⟨some (21,true),.ld (.t 22)⟩,⟨some (21,true),.fA 1 (.v 7)⟩,⟨some (21,true),.ld (.t 24)⟩,⟨some (21,true),.idxA 1 (.t 23) (.t 25)⟩,⟨some (21,true),.ld (.t 26)⟩,⟨some (21,true),.bin .lss (.t 27) (.i 16)⟩,⟨none,.pick (.t 21) (.t 28) (.k (.bool false))⟩,⟨none,.mv (.t 29)⟩] [] (.t 30) (.seq (.ops [] [⟨none,.fA 0 (.v 8)⟩,⟨none,.ld (.t 0)⟩,⟨none,.fA 1 (.v 7)⟩,⟨none,.ld (.t 2)⟩,⟨none,.fA 0 (.v 8)⟩,⟨none,.ld (.t 4)⟩,⟨none,.fA 1 (.v 7)⟩,⟨none,.ld (.t 6)⟩,⟨none,.idxA 1 (.t 5) (.t 7)⟩,⟨none,.ld (.t 8)⟩,⟨none,.bin .add (.t 9) (.i 1)⟩,⟨none,.idxA 1 (.t 1) (.t 3)⟩,⟨none,.st (.t 11) (.t 10)⟩] []) (.seq (.seq (.ops [] [⟨none,.asg 9 (.i 0)⟩] []) (.block 1 (.loop (.seq (.opc [] [⟨none,.mv (.v 9)⟩,⟨none,.fA 1 (.v 5)⟩,⟨none,.ld (.t 1)⟩,⟨none,.len (.t 2)⟩,⟨none,.bin .lss (.t 0) (.t 3)⟩] [] (.t 4) .skip (.exit 1)) (.seq (.block 2 (.opc [] [⟨none,.fA 1 (.v 5)⟩,⟨none,.ld (.t 0)⟩,⟨none,.mv (.v 9)⟩,⟨none,.idxA 1 (.t 1) (.t 2)⟩,⟨none,.ld (.t 3)⟩,⟨none,.fA 1 (.v 7)⟩,⟨none,.ld (.t 5)⟩,⟨none,.bin .eql (.t 4) (.t 6)⟩] [] (.t 7) (.alt [] (.two 1 10 [0,2,3,4,5,6,7,8,9,10,1,11,12] (.leaf [⟨none,.fA 1 (.v 8)⟩,⟨none,.mv (.v 9)⟩,⟨none,.fA 1 (.v 6)⟩,⟨none,.mv (.v 9)⟩,⟨none,.ld (.t 0)⟩,⟨none,.ld (.t 2)⟩,⟨none,.idxA 1 (.t 5) (.t 3)⟩,⟨none,.ld (.t 6)⟩,⟨none,.call 26 [(.t 7)]⟩,⟨none,.bldS (.int .i64 0) 1 [(0,(.i (-1)))]⟩,⟨none,.app 1 8 (.t 8) (.t 9)⟩,⟨none,.idxA 1 (.t 4) (.t 1)⟩,⟨none,.st (.t 11) (.t 10)⟩] []) (.leaf [⟨none,.fA 1 (.v 8)⟩,⟨none,.mv (.v 9)⟩,⟨none,.fA 1 (.v 6)⟩,⟨none,.mv (.v 9)⟩,⟨none,.ld (.t 2)⟩,⟨none,.idxA 1 (.t 4) (.t 3)⟩,⟨none,.ld (.t 5)⟩,⟨none,.call 26 [(.t 6)]⟩,⟨none,.bldS (.int .i64 0) 1 [(0,(.i (-1)))]⟩,⟨none,.app 1 8 (.t 7) (.t 8)⟩,⟨none,.ld (.t 0)⟩,⟨none,.idxA 1 (.t 10) (.t 1)⟩,⟨none,.st (.t 11) (.t 9)⟩] []))) .skip)) (.ops [] [⟨none,.mv (.v 9)⟩,⟨none,.bin .add (.t 0) (.i 1)⟩,⟨none,.asg 9 (.t 1)⟩] [])))))) (.seq (.ops [] [⟨none,.lda 2 (.v 8)⟩,⟨none,.stn 2 (.v 3) (.t 0)⟩,⟨none,.asg 4 (.k (.bool true))⟩] []) .ret))) (.opc [] [⟨none,.fA 0 (.v 7)⟩,⟨none,.ld (.t 0)⟩,⟨none,.bin .eql (.t 1) (.i 2)⟩,⟨none,.mv (.t 2)⟩,⟨some (3,true),.fA 1 (.v 7)⟩,⟨some (3,true),.ld (.t 4)⟩,⟨some (3,true),.fA 1 (.v 5)⟩,⟨some (3,true),.ld (.t 6)⟩,⟨some (3,true),.len (.t 7)⟩,⟨some (3,true),.bin .sub (.t 8) (.i 1)⟩,⟨some (3,true),.call 30 [(.t 5),(.i 0),(.t 9)]⟩,⟨none,.pick (.t 3) (.t 10) (.k (.bool false))⟩,⟨none,.mv (.t 11)⟩] [] (.t 12) (.seq (.opc [] [⟨none,.fA 2 (.v 7)⟩,⟨none,.ld (.t 0)⟩,⟨none,.fA 0 (.v 6)⟩,⟨none,.ld (.t 2)⟩,⟨none,.fA 1 (.v 5)⟩,⟨none,.ld (.t 4)⟩,⟨none,.fA 1 (.v 7)⟩,⟨none,.ld (.t 6)⟩,⟨none,.idxA 1 (.t 5) (.t 7)⟩,⟨none,.ld (.t 8)⟩,⟨none,.idxA 1 (.t 3) (.t 9)⟩,⟨none,.ld (.t 10)⟩,⟨none,.bin .sub (.t 11) (.i 1)⟩,⟨none,.call 30 [(.t 1),(.i 0),(.t 12)]⟩,⟨none,.not (.t 13)⟩,⟨none,.mv (.t 14)⟩,⟨some (15,false),.fA 3 (.v 7)⟩,⟨some (15,false),.ld (.t 16)⟩,⟨some (15,false),.fA 0 (.v 6)⟩,⟨some (15,false),.ld (.t 18)⟩,⟨some (15,false),.fA 2 (.v 5)⟩,⟨some (15,false),.ld (.t 20)⟩,⟨some (15,false),.fA 1 (.v 7)⟩,⟨some (15,false),.ld (.t 22)⟩,⟨some (15,false),.idxA 1 (.t 21) (.t 23)⟩,⟨some (15,false),.ld (.t 24)⟩,⟨some (15,false),.idxA 1 (.t 19) (.t 25)⟩,⟨some (15,false),.ld (.t 26)⟩,⟨some (15,false),.bin .sub (.t 27) (.i 1)⟩,⟨some (15,false),.call 30 [(.t 17),(.i 0),(.t 28)]⟩,⟨some (15,false),.not (.t 29)⟩,⟨none,.pick (.t 15) (.k (.bool true)) (.t 30)⟩] [] (.t 31) (.seq (.ops [] [⟨none,.bld [.nils (.int .i64 0),.nils (ints [])] []⟩,⟨none,.stn 2 (.v 3) (.t 0)⟩,⟨none,.asg 4 (.k (.bool false))⟩] []) .ret) .skip) (.seq (.ops [] [⟨none,.fA 1 (.v 8)⟩,⟨none,.ld (.t 0)⟩,⟨none,.fA 1 (.v 7)⟩,⟨none,.ld (.t 2)⟩,⟨none,.idxA 1 (.t 1) (.t 3)⟩,⟨none,.ld (.t 4)⟩,⟨none,.fA 2 (.v 7)⟩,⟨none,.ld (.t 6)⟩,⟨none,.fA 3 (.v 7)⟩,⟨none,.ld (.t 8)⟩,⟨none,.idxA 1 (.t 5) (.t 7)⟩,⟨none,.st (.t 10) (.t 9)⟩] []) (.seq (.ops [] [⟨none,.lda 2 (.v 8)⟩,⟨none,.stn 2 (.v 3) (.t 0)⟩,⟨none,.asg 4 (.k (.bool true))⟩] []) .ret))) .skip))) (.seq (.ops [] [⟨none,.bld [.nils (.int .i64 0),.nils (ints [])] []⟩,⟨none,.stn 2 (.v 3) (.t 0)⟩,⟨none,.asg 4 (.k (.bool false))⟩] []) .ret))))
def tr_spec_l39Apply:List Nat:=[0,1,2,6,7,3,4,5,8,9]
def rs_spec_l39Apply:List RS:=[.c 3 2 true,.t 4]
theorem ok_spec_l39Apply:fnOk Go.Proofs.Tryz.prog Go.Proofs.Tryz.f53 tr_spec_l39Apply c_spec_l39Apply 3 rs_spec_l39Apply=true:=by decide +kernel
theorem ret_spec_l39Apply (s:Sch) (d:Dat) (c:Chg) (hs:SOk s) (hd:DOk s d):Ret Go.Proofs.Tryz.prog 53 [.v (Sch.d s),.v (Dat.d d),.v (Chg.d c)] (if d.can s c=true then .tup [Dat.d (d.app s c),.bool true] else .tup [Dat.d Dat.zero,.bool false]):=by
 obtain ⟨m1,m2⟩:=hd.small hs
 have hnd:=hd.nd
 have hmp:=hd.mp
 have n0:=hs.n0
 have n8:=hs.n8
 have f8:=hs.f8
 have hto:=hs.to
 have hw1:IntKind.i64.wrap (s.nd-1)=s.nd-1:=wrap_p (by omega) (by omega)
 have hw2:IntKind.i64.wrap ((s.fr.length:Int)-1)=(s.fr.length:Int)-1:=wrap_p (by omega) (by omega)
 refine ret_fn Go.Proofs.Tryz.func53 ok_spec_l39Apply rfl (show 3<500 by decide) rfl ?_;unfold c_spec_l39Apply tr_spec_l39Apply rs_spec_l39Apply;simp only [go_sem,Nat.reduceLT,Nat.reduceAdd,Nat.reduceSub,↓reduceIte]
 refine call_of (ret_spec_l01Own d.sz m1) rfl (.inl (nv_ints _)) ?_
 simp only [go_sem,Nat.reduceLT,Nat.reduceAdd,Nat.reduceSub,↓reduceIte]
 refine call_of (ret_spec_l01Own2 d.mp m2) rfl (.inl (nv_intss _)) ?_
 simp only [go_sem,Nat.reduceLT,Nat.reduceAdd,Nat.reduceSub,Nat.reduceEqDiff,Nat.reduceBEq,Nat.reduceLeDiff,↓reduceIte]
 rw [hw1]
 refine callg_of (fun _=>ret_spec_l01In _ _ _) rfl (fun h=>h) (.inl rfl) ?_
 simp only [go_sem,Nat.reduceLT,Nat.reduceAdd,Nat.reduceSub,Nat.reduceBEq,Nat.reduceLeDiff,↓reduceIte]
 have hin:inR c.fi 0 (s.nd-1)=true→0≤c.fi∧c.fi<d.sz.length:=by unfold inR;simp;omega
 have h16:inR c.fi 0 (s.nd-1)=true→(decide (d.sz.getD c.fi.toNat 0<16))=!(d.sz.getD c.fi.toNat 0 == 16):=fun h=>by
  have:=hin h
  have:=hd.szr c.fi.toNat (by omega)
  rw [Bool.eq_iff_iff];simp only [decide_eq_true_eq,Bool.not_eq_true',beq_eq_false_iff_ne];omega
 refine ⟨fun h=>⟨h,hin (by rw [Bool.and_eq_true] at h;exact h.2)⟩,fun h=>?_,fun h=>?_⟩
 ·rw [Bool.and_eq_true,Bool.and_eq_true,Bool.and_eq_true,Bool.and_eq_true] at h
  obtain ⟨⟨⟨⟨a1,a2⟩,a3⟩,a4⟩,a5⟩:=h
  have hk:c.kd=1:=by simpa using a1
  have hc:d.can s c=true:=by
   unfold Dat.can Chg.okB
   rw [if_pos hk,if_pos hk,a2,a3,a4,← h16 a4,a5];rfl
  rw [if_pos hc]
  unfold Dat.app
  rw [if_pos hk]
  have hi:=hin a4
  have hsz:=hd.szr c.fi.toNat (by omega)
  rw [decide_eq_true_eq] at a5
  refine ⟨hi,hi,by omega,?_⟩
  rw [wrap_small (by omega) (by omega)]
  refine loop_set [] (fun (k:Nat)=>[(9,.int .i64 k),(8,.box [.o (ints (d.sz.set c.fi.toNat (d.sz.getD c.fi.toNat 0+1))),.o (intss (addF d.mp (outsP s.fr c.fi k)))])]) (fun k=>k≤s.fr.length) (fun k=>s.fr.length-k) 0 (by simp only [go_sem];rfl) (Nat.zero_le _) rfl ?_
  intro k hkk
  simp only [go_sem,Nat.reduceLT,Nat.reduceAdd,Nat.reduceSub,Nat.reduceEqDiff,Nat.reduceBEq,Nat.reduceLeDiff,↓reduceIte]
  have hkl:=hd.mlen hs k
  have hal:(addF d.mp (outsP s.fr c.fi k)).length=d.mp.length:=addF_len
  have hgk:(addF d.mp (outsP s.fr c.fi k)).getD k []=d.mp.getD k []:=by rw [addF_get (by omega),if_neg (fun hh=>Nat.lt_irrefl _ hh.1)]
  refine ⟨fun h1=>⟨h1,fun h3=>⟨⟨by omega,call_of (ret_spec_l01Own (d.mp.getD k []) (by omega)) rfl (.inl (nv_ints _)) ?_⟩,by omega,call_of (ret_spec_l01Own (d.mp.getD k []) (by omega)) rfl (.inl (nv_ints _)) ?_⟩,fun h3=>⟨k+1,h1,by omega,?_⟩⟩,fun h1=>by rw [show k=s.fr.length by omega]⟩
  all_goals try (
   simp only [go_sem,Nat.reduceLT,Nat.reduceAdd,Nat.reduceSub,Nat.reduceEqDiff,Nat.reduceBEq,↓reduceIte]
   refine ⟨by omega,by omega,by omega,k+1,h1,by omega,?_⟩
   rw [outsP_succ,if_pos (by simpa using h3),addF_snoc,Int.toNat_natCast,hgk,wrap_lt h1 (by simp only [maxLen];omega)])
  ·rw [outsP_succ,if_neg (by simpa using h3),List.append_nil,wrap_lt h1 (by simp only [maxLen];omega)]
 ·rw [hw2]
  refine callg_of (fun _=>ret_spec_l01In _ _ _) rfl (fun h=>h) (.inl rfl) ?_
  simp only [go_sem,Nat.reduceLT,Nat.reduceAdd,Nat.reduceSub,Nat.reduceEqDiff,↓reduceIte]
  have hin2:inR c.fi 0 ((s.fr.length:Int)-1)=true→0≤c.fi∧c.fi<s.fr.length:=by unfold inR;simp;omega
  have neg:d.can s c=false→D.tup [D.agg [lst (D.int .i64) 0 [],lst ints [] []],D.bool false]=if d.can s c=true then D.tup [D.agg [ints (d.app s c).sz,intss (d.app s c).mp],D.bool true] else D.tup [D.agg [ints Dat.zero.sz,intss Dat.zero.mp],D.bool false]:=fun hc=>by rw [if_neg (by rw [hc];simp)];rfl
  have hk1:c.kd=1→d.can s c=false:=fun hk=>by
   unfold Dat.can Chg.okB
   rw [if_pos hk,if_pos hk]
   rw [show (c.kd == 1)=true by rw [hk];rfl,Bool.true_and] at h
   cases a4:inR c.fi 0 (s.nd-1) with
   | false=>simp
   | true =>
    rw [a4,h16 a4] at h
    rw [Bool.true_and]
    rw [Bool.and_true] at h
    exact h
  have hcan:¬ c.kd=1→d.can s c=((c.kd == 2)&&(inR c.fi 0 ((s.fr.length:Int)-1)&&inR c.se 0 (d.sz.getD (s.fr.getD c.fi.toNat 0).toNat 0-1)&&inR c.th 0 (d.sz.getD (s.to.getD c.fi.toNat 0).toNat 0-1))):=fun hk=>by
   unfold Dat.can Chg.okB;rw [if_neg hk,if_neg hk]
  have hszb:∀ k,-1≤d.sz.getD k 0-1∧d.sz.getD k 0≤16:=fun k=>by
   by_cases hkk:k<d.sz.length
   ·have:=hd.szr k hkk;omega
   ·rw [List.getD_eq_getElem?_getD,List.getElem?_eq_none (by omega)];simp
  have hwr:∀ k,IntKind.i64.wrap (d.sz.getD k 0-1)=d.sz.getD k 0-1:=fun k=>by have:=hszb k;exact wrap_p (by omega) (by omega)
  refine ⟨fun h2=>?_,fun h2=>neg ?_⟩
  ·rw [Bool.and_eq_true] at h2
   obtain ⟨b1,b2⟩:=h2
   have hk2:c.kd=2:=by simpa using b1
   have hi:=hin2 b2
   have hfi:=mapB_get hs.fr (show c.fi.toNat<s.fr.length by omega)
   have hti:=mapB_get hs.tos (show c.fi.toNat<s.to.length by omega)
   rw [hwr]
   refine ⟨hi,by omega,call_of (ret_spec_l01In _ _ _) rfl (.inl rfl) ?_⟩
   simp only [go_sem,Nat.reduceLT,Nat.reduceAdd,Nat.reduceSub,↓reduceIte]
   rw [hwr]
   refine ⟨fun h=>⟨h,by omega⟩,fun h=>⟨h,by omega⟩,callg_of (fun _=>ret_spec_l01In _ _ _) rfl (fun h=>h) (.inl rfl) ?_⟩
   simp only [go_sem,Nat.reduceLT,Nat.reduceAdd,Nat.reduceSub,Nat.reduceEqDiff,Nat.reduceBEq,Nat.reduceLeDiff,↓reduceIte]
   have hk:¬ c.kd=1:=by omega
   have hcan:=hcan hk
   rw [b1,b2,Bool.true_and,Bool.true_and] at hcan
   refine ⟨fun h=>by simpa using h,fun h3=>neg ?_,fun h3=>?_⟩
   ·rw [hcan]
    rw [Bool.or_eq_true,Bool.not_eq_true',Bool.not_eq_true'] at h3
    rw [Bool.and_eq_false_iff];exact h3
   ·rw [Bool.or_eq_false_iff,Bool.not_eq_false',Bool.not_eq_false'] at h3
    have hc:d.can s c=true:=by rw [hcan,h3.1,h3.2];rfl
    have i2 : 0≤c.se∧c.se<(d.mp.getD c.fi.toNat []).length:=by
     have:=hd.len c.fi.toNat (by omega)
     have c2:=h3.1
     unfold inR at c2;simp only [Bool.and_eq_true,decide_eq_true_eq] at c2;omega
    rw [if_pos hc]
    unfold Dat.app
    rw [if_neg hk]
    refine ⟨⟨by omega,by omega⟩,i2,⟨by omega,by omega⟩,?_⟩
    rw [set_cell]
  ·by_cases hk:c.kd=1
   ·exact hk1 hk
   ·rw [hcan hk,← Bool.and_assoc,← Bool.and_assoc,h2];rfl
end Go.D3
namespace Go.D3
open Go
set_option maxRecDepth 100000
def chkF:Int→List UInt8→Int
 | n,[]=>n
 | n,b::r=>chkF ((31*n+(b.toNat:Int)).tmod 1000003) r
theorem chk_drop {n:Int} {t:List UInt8} {i:Nat} (h:i<t.length):chkF n (t.drop i)=chkF ((31*n+((t.getD i 0).toNat:Int)).tmod 1000003) (t.drop (i+1)):=by
 rw [List.drop_eq_getElem_cons h,chkF,getD_lt h]
def c_impl_check:C := (.seq (.ops [] [⟨none,.asg 1 (.i 0)⟩] []) (.seq (.ops [] [⟨none,.asg 2 (.i 7)⟩] []) (.seq (.seq (.ops [] [⟨none,.asg 3 (.i 0)⟩] []) (.block 0 (.loop (.seq (.opc [] [⟨none,.mv (.v 3)⟩,⟨none,.mv (.v 0)⟩,⟨none,.lenS (.t 1)⟩,⟨none,.bin .lss (.t 0) (.t 2)⟩] [] (.t 3) .skip (.exit 0)) (.seq (.block 1 (.ops [] [⟨none,.mv (.v 2)⟩,⟨none,.bin .mul (.i 31) (.t 0)⟩,⟨none,.mv (.v 0)⟩,⟨none,.mv (.v 3)⟩,⟨none,.idxS (.t 2) (.t 3)⟩,⟨none,.conv .i64 (.t 4)⟩,⟨none,.bin .add (.t 1) (.t 5)⟩,⟨none,.bin .rem (.t 6) (.i 1000003)⟩,⟨none,.asg 2 (.t 7)⟩] [])) (.ops [] [⟨none,.mv (.v 3)⟩,⟨none,.bin .add (.t 0) (.i 1)⟩,⟨none,.asg 3 (.t 1)⟩] [])))))) (.seq (.ops [] [⟨none,.mv (.v 2)⟩,⟨none,.asg 1 (.t 0)⟩] []) .ret))))
def tr_impl_check:List Nat:=[0,2,3,4]
def rs_impl_check:List RS:=[.t 1]
theorem ok_impl_check:fnOk Go.Proofs.Tryz.prog Go.Proofs.Tryz.f52 tr_impl_check c_impl_check 1 rs_impl_check=true:=by decide +kernel
theorem ret_impl_check (t:List UInt8):Ret Go.Proofs.Tryz.prog 52 [.v (.str t)] (.int .i64 (chkF 7 t)):=by
 refine ret_wf fun hw=>?_
 simp only [argsWf,D.wfd] at hw
 have hl:t.length≤maxLen:=hw.1
 refine ret_fn Go.Proofs.Tryz.func52 ok_impl_check rfl (show 1<500 by decide) rfl ?_;unfold c_impl_check tr_impl_check rs_impl_check;simp only [go_sem,Nat.reduceLT,Nat.reduceAdd,↓reduceIte]
 refine loop_set [] (fun (p:Nat×Int)=>[(2,.int .i64 p.2),(3,.int .i64 p.1)]) (fun p=>p.1≤t.length∧chkF p.2 (t.drop p.1)=chkF 7 t∧0≤p.2∧p.2≤1000003) (fun p=>t.length-p.1) (0,7) (by simp only [go_sem];rfl) ⟨Nat.zero_le _,rfl,by decide,by decide⟩ rfl ?_
 rintro ⟨i,n⟩ ⟨hi,ha,h0,h1⟩
 simp only at hi ha h0 h1
 simp only [go_sem,Nat.reduceLT,Nat.reduceAdd,Nat.reduceSub,↓reduceIte]
 refine ⟨fun h=>⟨h,by decide,(i+1,(31*n+((t.getD i 0).toNat:Int)).tmod 1000003),⟨h,by rw [← ha,chk_drop h],?_,?_⟩,by show t.length-(i+1)<t.length-i;omega,?_⟩,fun h=>by rw [show i=t.length by omega,List.drop_length] at ha;rw [← ha];rfl⟩
 ·have:=(t.getD i 0).toNat_lt
  show 0≤Int.tmod _ _
  rw [Int.tmod_eq_emod_of_nonneg (by omega)];omega
 ·have:=(t.getD i 0).toNat_lt
  show Int.tmod _ _≤_
  rw [Int.tmod_eq_emod_of_nonneg (by omega)];omega
 ·have:=(t.getD i 0).toNat_lt
  rw [wrap_lt h hl,wrap_small (n:=31*n) (by omega) (by omega),wrap_small (n:=((t.getD i 0).toNat:Int)) (by omega) (by omega),wrap_small (by omega) (by omega)]
def c_spec_l39Check:C := (.seq (.ops [] [⟨none,.asg 1 (.i 0)⟩] []) (.seq (.ops [] [⟨none,.asg 2 (.i 7)⟩] []) (.seq (.seq (.ops [] [⟨none,.asg 3 (.i 0)⟩] []) (.block 0 (.loop (.seq (.opc [] [⟨none,.mv (.v 3)⟩,⟨none,.mv (.v 0)⟩,⟨none,.lenS (.t 1)⟩,⟨none,.bin .lss (.t 0) (.t 2)⟩] [] (.t 3) .skip (.exit 0)) (.seq (.block 1 (.ops [] [⟨none,.mv (.v 2)⟩,⟨none,.bin .mul (.i 31) (.t 0)⟩,⟨none,.mv (.v 0)⟩,⟨none,.mv (.v 3)⟩,⟨none,.idxS (.t 2) (.t 3)⟩,⟨none,.conv .i64 (.t 4)⟩,⟨none,.bin .add (.t 1) (.t 5)⟩,⟨none,.bin .rem (.t 6) (.i 1000003)⟩,⟨none,.asg 2 (.t 7)⟩] [])) (.ops [] [⟨none,.mv (.v 3)⟩,⟨none,.bin .add (.t 0) (.i 1)⟩,⟨none,.asg 3 (.t 1)⟩] [])))))) (.seq (.ops [] [⟨none,.mv (.v 2)⟩,⟨none,.asg 1 (.t 0)⟩] []) .ret))))
def tr_spec_l39Check:List Nat:=[0,2,3,4]
def rs_spec_l39Check:List RS:=[.t 1]
theorem ok_spec_l39Check:fnOk Go.Proofs.Tryz.prog Go.Proofs.Tryz.f44 tr_spec_l39Check c_spec_l39Check 1 rs_spec_l39Check=true:=by decide +kernel
theorem ret_spec_l39Check (t:List UInt8):Ret Go.Proofs.Tryz.prog 44 [.v (.str t)] (.int .i64 (chkF 7 t)):=by
 refine ret_wf fun hw=>?_
 simp only [argsWf,D.wfd] at hw
 have hl:t.length≤maxLen:=hw.1
 refine ret_fn Go.Proofs.Tryz.func44 ok_spec_l39Check rfl (show 1<500 by decide) rfl ?_;unfold c_spec_l39Check tr_spec_l39Check rs_spec_l39Check;simp only [go_sem,Nat.reduceLT,Nat.reduceAdd,↓reduceIte]
 refine loop_set [] (fun (p:Nat×Int)=>[(2,.int .i64 p.2),(3,.int .i64 p.1)]) (fun p=>p.1≤t.length∧chkF p.2 (t.drop p.1)=chkF 7 t∧0≤p.2∧p.2≤1000003) (fun p=>t.length-p.1) (0,7) (by simp only [go_sem];rfl) ⟨Nat.zero_le _,rfl,by decide,by decide⟩ rfl ?_
 rintro ⟨i,n⟩ ⟨hi,ha,h0,h1⟩
 simp only at hi ha h0 h1
 simp only [go_sem,Nat.reduceLT,Nat.reduceAdd,Nat.reduceSub,↓reduceIte]
 refine ⟨fun h=>⟨h,by decide,(i+1,(31*n+((t.getD i 0).toNat:Int)).tmod 1000003),⟨h,by rw [← ha,chk_drop h],?_,?_⟩,by show t.length-(i+1)<t.length-i;omega,?_⟩,fun h=>by rw [show i=t.length by omega,List.drop_length] at ha;rw [← ha];rfl⟩
 ·have:=(t.getD i 0).toNat_lt
  show 0≤Int.tmod _ _
  rw [Int.tmod_eq_emod_of_nonneg (by omega)];omega
 ·have:=(t.getD i 0).toNat_lt
  show Int.tmod _ _≤_
  rw [Int.tmod_eq_emod_of_nonneg (by omega)];omega
 ·have:=(t.getD i 0).toNat_lt
  rw [wrap_lt h hl,wrap_small (n:=31*n) (by omega) (by omega),wrap_small (n:=((t.getD i 0).toNat:Int)) (by omega) (by omega),wrap_small (by omega) (by omega)]
end Go.D3
namespace Go.D3
open Go
set_option maxRecDepth 100000
set_option maxHeartbeats 1000000
def Chg.line (c:Chg):List UInt8:=if c.kd=1 then [97,100,100,32]++Lib.itoa c.fi else [115,101,116,32]++Lib.itoa c.fi++[32]++Lib.itoa c.se++[32]++Lib.itoa c.th
theorem itoa_has {n:Int} (h:IntKind.i64.has n):(Lib.itoa n).length≤21:=by
 simp [IntKind.has,IntKind.min,IntKind.max,IntKind.signed,IntKind.bits] at h
 exact Lib.itoa_length_le n h.1 h.2
def Chg.has (c:Chg):Prop:=IntKind.i64.has c.kd∧IntKind.i64.has c.fi∧IntKind.i64.has c.se∧IntKind.i64.has c.th
theorem Chg.has_of {c:Chg} (h:c.d.wfd):c.has:=by
 simp only [Chg.d,Chg.cells,D.wfd,wfdL,and_true] at h
 exact h
theorem line_len {c:Chg} (h:c.has):c.line.length≤72:=by
 obtain ⟨_,h1,h2,h3⟩:=h
 have:=itoa_has h1
 have:=itoa_has h2
 have:=itoa_has h3
 unfold Chg.line
 split<;>simp only [List.length_append,List.length_cons,List.length_nil]<;>omega
def c_impl_Change_line:C := (.seq (.ops [2] [⟨none,.boxv 4 (.v 0)⟩,⟨none,.asg 1 (.k (.str []))⟩] [(2,0)]) (.seq (.ops [] [⟨none,.fA 1 (.v 2)⟩,⟨none,.ld (.t 0)⟩,⟨none,.call 51 [(.t 1),(.i 10)]⟩,⟨none,.asg 3 (.t 2)⟩] []) (.seq (.opc [] [⟨none,.fA 0 (.v 2)⟩,⟨none,.ld (.t 0)⟩,⟨none,.bin .eql (.t 1) (.i 1)⟩] [] (.t 2) (.seq (.ops [] [⟨none,.mv (.v 3)⟩,⟨none,.bin .add (.k (.str [97,100,100,32])) (.t 0)⟩,⟨none,.asg 1 (.t 1)⟩] []) .ret) .skip) (.seq (.ops [] [⟨none,.mv (.v 3)⟩,⟨none,.bin .add (.k (.str [115,101,116,32])) (.t 0)⟩,⟨none,.bin .add (.t 1) (.k (.str [32]))⟩,⟨none,.fA 2 (.v 2)⟩,⟨none,.ld (.t 3)⟩,⟨none,.call 51 [(.t 4),(.i 10)]⟩,⟨none,.bin .add (.t 2) (.t 5)⟩,⟨none,.bin .add (.t 6) (.k (.str [32]))⟩,⟨none,.fA 3 (.v 2)⟩,⟨none,.ld (.t 8)⟩,⟨none,.call 51 [(.t 9),(.i 10)]⟩,⟨none,.bin .add (.t 7) (.t 10)⟩,⟨none,.asg 1 (.t 11)⟩] []) .ret))))
def tr_impl_Change_line:List Nat:=[0,2,1,3]
def rs_impl_Change_line:List RS:=[.t 1]
theorem ok_impl_Change_line:fnOk Go.Proofs.Tryz.prog Go.Proofs.Tryz.f50 tr_impl_Change_line c_impl_Change_line 1 rs_impl_Change_line=true:=by decide +kernel
theorem ret_impl_Change_line (c:Chg):Ret Go.Proofs.Tryz.prog 50 [.v (Chg.d c)] (.str c.line):=by
 refine ret_wf fun hw=>?_
 have hc:=Chg.has_of hw.1
 obtain ⟨_,h1,h2,h3⟩:=hc
 have:=itoa_has h1
 have:=itoa_has h2
 have:=itoa_has h3
 refine ret_fn Go.Proofs.Tryz.func50 ok_impl_Change_line rfl (show 1<500 by decide) rfl ?_;unfold c_impl_Change_line tr_impl_Change_line rs_impl_Change_line;simp only [go_sem,Nat.reduceLT,Nat.reduceAdd,Nat.reduceSub,↓reduceIte]
 refine call_of ret_itoa rfl (.inl rfl) ?_
 simp only [go_sem,Nat.reduceLT,Nat.reduceAdd,Nat.reduceSub,↓reduceIte]
 unfold Chg.line
 refine ⟨fun h=>⟨(by simp only [maxLen];omega),by rw [if_pos h];rfl⟩,fun h=>⟨(by simp only [maxLen];omega),(by simp only [maxLen];omega),?_⟩⟩
 refine call_of ret_itoa rfl (.inl rfl) ?_
 simp only [go_sem,Nat.reduceLT,Nat.reduceAdd,Nat.reduceSub,↓reduceIte]
 refine ⟨(by simp only [maxLen,List.length_append,List.length_cons,List.length_nil];omega),(by simp only [maxLen,List.length_append,List.length_cons,List.length_nil];omega),call_of ret_itoa rfl (.inl rfl) ?_⟩
 simp only [go_sem,Nat.reduceLT,Nat.reduceAdd,Nat.reduceSub,↓reduceIte]
 refine ⟨(by simp only [maxLen,List.length_append,List.length_cons,List.length_nil];omega),?_⟩
 rw [if_neg (by simpa using h)]
def COk (c:Chg):Prop:=(0≤c.fi∧c.fi≤1000000)∧(c.kd≠1→(0≤c.se∧c.se≤1000000)∧0≤c.th∧c.th≤1000000)
def c_spec_l39Line:C := (.seq (.ops [2] [⟨none,.boxv 4 (.v 0)⟩,⟨none,.asg 1 (.k (.str []))⟩] [(2,0)]) (.seq (.opc [] [⟨none,.fA 0 (.v 2)⟩,⟨none,.ld (.t 0)⟩,⟨none,.bin .eql (.t 1) (.i 1)⟩] [] (.t 2) (.seq (.ops [] [⟨none,.fA 1 (.v 2)⟩,⟨none,.ld (.t 0)⟩,⟨none,.call 43 [(.t 1)]⟩,⟨none,.bin .add (.k (.str [97,100,100,32])) (.t 2)⟩,⟨none,.asg 1 (.t 3)⟩] []) .ret) .skip) (.seq (.ops [] [⟨none,.fA 1 (.v 2)⟩,⟨none,.ld (.t 0)⟩,⟨none,.call 43 [(.t 1)]⟩,⟨none,.bin .add (.k (.str [115,101,116,32])) (.t 2)⟩,⟨none,.bin .add (.t 3) (.k (.str [32]))⟩,⟨none,.fA 2 (.v 2)⟩,⟨none,.ld (.t 5)⟩,⟨none,.call 43 [(.t 6)]⟩,⟨none,.bin .add (.t 4) (.t 7)⟩,⟨none,.bin .add (.t 8) (.k (.str [32]))⟩,⟨none,.fA 3 (.v 2)⟩,⟨none,.ld (.t 10)⟩,⟨none,.call 43 [(.t 11)]⟩,⟨none,.bin .add (.t 9) (.t 12)⟩,⟨none,.asg 1 (.t 13)⟩] []) .ret)))
def tr_spec_l39Line:List Nat:=[0,2,1]
def rs_spec_l39Line:List RS:=[.t 1]
theorem ok_spec_l39Line:fnOk Go.Proofs.Tryz.prog Go.Proofs.Tryz.f48 tr_spec_l39Line c_spec_l39Line 1 rs_spec_l39Line=true:=by decide +kernel
theorem ret_spec_l39Line (c:Chg) (hc:COk c):Ret Go.Proofs.Tryz.prog 48 [.v (Chg.d c)] (.str c.line):=by
 have:=itoa_len hc.1.1 (by have:=hc.1;omega)
 refine ret_fn Go.Proofs.Tryz.func48 ok_spec_l39Line rfl (show 1<500 by decide) rfl ?_;unfold c_spec_l39Line tr_spec_l39Line rs_spec_l39Line;simp only [go_sem,Nat.reduceLT,Nat.reduceAdd,Nat.reduceSub,↓reduceIte]
 unfold Chg.line
 refine ⟨fun h=>call_of (ret_dec hc.1.1 (by have:=hc.1;omega)) rfl (.inl rfl) ?_,fun h=>call_of (ret_dec hc.1.1 (by have:=hc.1;omega)) rfl (.inl rfl) ?_⟩
 all_goals simp only [go_sem,Nat.reduceLT,Nat.reduceAdd,Nat.reduceSub,↓reduceIte]
 ·exact ⟨(by simp only [maxLen];omega),by rw [if_pos h]⟩
 ·have h:c.kd≠1:=by simpa using h
  obtain ⟨h2,h3⟩:=hc.2 h
  have:=itoa_len h2.1 (by omega)
  have:=itoa_len h3.1 (by omega)
  refine ⟨(by simp only [maxLen];omega),(by simp only [maxLen];omega),call_of (ret_dec h2.1 (by omega)) rfl (.inl rfl) ?_⟩
  simp only [go_sem,Nat.reduceLT,Nat.reduceAdd,Nat.reduceSub,↓reduceIte]
  refine ⟨(by simp only [maxLen,List.length_append,List.length_cons,List.length_nil];omega),(by simp only [maxLen,List.length_append,List.length_cons,List.length_nil];omega),call_of (ret_dec h3.1 (by omega)) rfl (.inl rfl) ?_⟩
  simp only [go_sem,Nat.reduceLT,Nat.reduceAdd,Nat.reduceSub,↓reduceIte]
  refine ⟨(by simp only [maxLen,List.length_append,List.length_cons,List.length_nil];omega),?_⟩
  rw [if_neg h]
def linesF (l:List Chg):List UInt8:=(l.map fun c=>c.line++[10]).flatten
theorem linesF_snoc {l:List Chg} {c:Chg}:linesF (l++[c])=linesF l++(c.line++[10]):=by unfold linesF;simp
def endF (t:List UInt8):List UInt8:=[101,110,100,32]++Lib.itoa (chkF 7 t)
def putF (t:List UInt8) (l:List Chg):List UInt8:=t++linesF l++endF (t++linesF l)++[10]
theorem chk_range {t:List UInt8}:∀ {n:Int},0≤n→n≤1000003→0≤chkF n t∧chkF n t≤1000003:=by
 induction t with
 | nil=>exact fun h1 h2=>⟨h1,h2⟩
 | cons b t ih =>
  intro n h1 h2
  have:=b.toNat_lt
  have e:((31*n+(b.toNat:Int)).tmod 1000003)=(31*n+(b.toNat:Int)) % 1000003:=Int.tmod_eq_emod_of_nonneg (by omega)
  exact ih (n:=(31*n+(b.toNat:Int)).tmod 1000003) (by rw [e];omega) (by rw [e];omega)
theorem chk7 {t:List UInt8} : 0≤chkF 7 t∧chkF 7 t≤1000003:=chk_range (by decide) (by decide)
theorem lines_len {l:List Chg} (h:∀ c∈l,c.line.length≤72):(linesF l).length≤73*l.length:=by
 induction l with
 | nil=>simp [linesF]
 | cons c l ih =>
  have h1:=ih fun x hx=>h x (List.mem_cons_of_mem _ hx)
  have h2:=h c List.mem_cons_self
  have e:linesF (c::l)=(c.line++[10])++linesF l:=rfl
  rw [e]
  simp only [List.length_append,List.length_cons,List.length_nil];omega
theorem mem_getD {α:Type} {l:List α} {i:Nat} {d:α} (h:i<l.length):l.getD i d∈l:=by rw [getD_lt h];exact List.getElem_mem _
def c_impl_transaction:C := (.seq (.ops [] [⟨none,.asg 2 (.k (.str []))⟩] []) (.seq (.ops [] [⟨none,.mv (.v 0)⟩,⟨none,.asg 3 (.t 0)⟩] []) (.seq (.seq (.ops [6] [⟨none,.asg 5 (.v 1)⟩,⟨none,.len (.v 5)⟩,⟨none,.asg 7 (.i 0)⟩] [(6,1)]) (.block 0 (.loop (.opq [] [⟨none,.bin .lss (.v 7) (.v 6)⟩] [] (.t 0) .skip (.exit 0) (.seq (.block 1 (.seq (.ops [4] [⟨none,.idxA 4 (.v 5) (.v 7)⟩,⟨none,.lda 4 (.t 0)⟩,⟨none,.alc [.int .i64 0,.int .i64 0,.int .i64 0,.int .i64 0]⟩,⟨none,.stn 4 (.t 2) (.t 1)⟩] [(4,2)]) (.ops [] [⟨none,.mv (.v 3)⟩,⟨none,.lda 4 (.v 4)⟩,⟨none,.call 50 [(.t 1)]⟩,⟨none,.bin .add (.t 2) (.k (.str [10]))⟩,⟨none,.bin .add (.t 0) (.t 3)⟩,⟨none,.asg 3 (.t 4)⟩] []))) (.ops [] [⟨none,.bin .add (.v 7) (.i 1)⟩,⟨none,.asg 7 (.t 0)⟩] [])))))) (.seq (.ops [] [⟨none,.mv (.v 3)⟩,⟨none,.bin .add (.t 0) (.k (.str [101,110,100,32]))⟩,⟨none,.mv (.v 3)⟩,⟨none,.call 52 [(.t 2)]⟩,⟨none,.call 51 [(.t 3),(.i 10)]⟩,⟨none,.bin .add (.t 1) (.t 4)⟩,⟨none,.bin .add (.t 5) (.k (.str [10]))⟩,⟨none,.asg 2 (.t 6)⟩] []) .ret))))
def tr_impl_transaction:List Nat:=[0,1,4,5,7,9,10,11]
def rs_impl_transaction:List RS:=[.t 2]
theorem ok_impl_transaction:fnOk Go.Proofs.Tryz.prog Go.Proofs.Tryz.f36 tr_impl_transaction c_impl_transaction 2 rs_impl_transaction=true:=by decide +kernel
theorem ret_impl_transaction (t:List UInt8) (l:List Chg) (ht:t.length≤4294966000) (hl:l.length≤1048576):Ret Go.Proofs.Tryz.prog 36 [.v (.str t),.v (lst Chg.d Chg.zero l)] (.str (putF t l)):=by
 refine ret_wf fun hw=>?_
 simp only [argsWf,wfd_lst] at hw
 have hc:∀ c∈l,c.line.length≤72:=fun c hc=>line_len (Chg.has_of (hw.2.1.2 c hc))
 clear hw
 refine ret_fn Go.Proofs.Tryz.func36 ok_impl_transaction rfl (show 2<500 by decide) rfl ?_;unfold c_impl_transaction tr_impl_transaction rs_impl_transaction;simp only [go_sem,Nat.reduceLT,Nat.reduceAdd,Nat.reduceSub,↓reduceIte]
 refine loop_set [4] (fun (i:Nat)=>[(3,.str (t++linesF (l.take i))),(7,.int .i64 i)]) (fun i=>i≤l.length) (fun i=>l.length-i) 0 (by simp only [go_sem,Nat.reduceLT,↓reduceIte];rfl) (Nat.zero_le _) (by simp [sets,setN,linesF]) ?_
 intro i hi
 have hll:=lines_len (l:=l.take i) fun c h=>hc c (List.mem_of_mem_take h)
 rw [List.length_take] at hll
 simp only [go_sem,Nat.reduceLT,Nat.reduceAdd,Nat.reduceSub,Nat.reduceLeDiff,↓reduceIte]
 refine ⟨fun h=>?_,fun h=>?_⟩
 ·have hm:=hc _ (mem_getD (d:=Chg.zero) h)
  refine ⟨h,call_of (ret_impl_Change_line (l.getD i Chg.zero)) rfl (.inl rfl) ?_⟩
  simp only [go_sem,Nat.reduceLT,Nat.reduceAdd,Nat.reduceSub,↓reduceIte]
  refine ⟨(by simp only [maxLen];omega),(by simp only [maxLen,List.length_append,List.length_cons,List.length_nil];omega),i+1,h,by omega,?_⟩
  rw [wrap_small (by omega) (by omega),take_snoc h Chg.zero,linesF_snoc,List.append_assoc]
  rfl
 ·rw [List.take_of_length_le (by omega)] at hll ⊢
  refine ⟨(by simp only [maxLen,List.length_append];omega),call_of (ret_impl_check _) rfl (.inl rfl) ?_⟩
  simp only [go_sem,Nat.reduceLT,Nat.reduceAdd,Nat.reduceSub,↓reduceIte]
  refine call_of ret_itoa rfl (.inl rfl) ?_
  simp only [go_sem,Nat.reduceLT,Nat.reduceAdd,Nat.reduceSub,↓reduceIte]
  have:=itoa_len (chk7 (t:=t++linesF l)).1 (by have:=(chk7 (t:=t++linesF l)).2;omega)
  refine ⟨(by simp only [maxLen,List.length_append,List.length_cons,List.length_nil];omega),(by simp only [maxLen,List.length_append,List.length_cons,List.length_nil];omega),?_⟩
  unfold putF endF
  simp only [List.append_assoc]
def c_spec_l39Put:C := (.seq (.ops [] [⟨none,.asg 2 (.k (.str []))⟩] []) (.seq (.seq (.ops [] [⟨none,.asg 3 (.i 0)⟩] []) (.block 0 (.loop (.seq (.opc [] [⟨none,.mv (.v 3)⟩,⟨none,.mv (.v 1)⟩,⟨none,.len (.t 1)⟩,⟨none,.bin .lss (.t 0) (.t 2)⟩] [] (.t 3) .skip (.exit 0)) (.seq (.block 1 (.ops [] [⟨none,.mv (.v 0)⟩,⟨none,.mv (.v 1)⟩,⟨none,.mv (.v 3)⟩,⟨none,.idxA 4 (.t 1) (.t 2)⟩,⟨none,.lda 4 (.t 3)⟩,⟨none,.call 48 [(.t 4)]⟩,⟨none,.bin .add (.t 0) (.t 5)⟩,⟨none,.bin .add (.t 6) (.k (.str [10]))⟩,⟨none,.asg 0 (.t 7)⟩] [])) (.ops [] [⟨none,.mv (.v 3)⟩,⟨none,.bin .add (.t 0) (.i 1)⟩,⟨none,.asg 3 (.t 1)⟩] [])))))) (.seq (.ops [] [⟨none,.mv (.v 0)⟩,⟨none,.bin .add (.t 0) (.k (.str [101,110,100,32]))⟩,⟨none,.mv (.v 0)⟩,⟨none,.call 44 [(.t 2)]⟩,⟨none,.call 43 [(.t 3)]⟩,⟨none,.bin .add (.t 1) (.t 4)⟩,⟨none,.bin .add (.t 5) (.k (.str [10]))⟩,⟨none,.asg 2 (.t 6)⟩] []) .ret)))
def tr_spec_l39Put:List Nat:=[0,1,4,5]
def rs_spec_l39Put:List RS:=[.t 2]
theorem ok_spec_l39Put:fnOk Go.Proofs.Tryz.prog Go.Proofs.Tryz.f34 tr_spec_l39Put c_spec_l39Put 2 rs_spec_l39Put=true:=by decide +kernel
theorem ret_spec_l39Put (t:List UInt8) (l:List Chg) (ht:t.length≤4294966000) (hl:l.length≤1048576) (hok:∀ c∈l,COk c):Ret Go.Proofs.Tryz.prog 34 [.v (.str t),.v (lst Chg.d Chg.zero l)] (.str (putF t l)):=by
 refine ret_wf fun hw=>?_
 simp only [argsWf,wfd_lst] at hw
 have hc:∀ c∈l,c.line.length≤72:=fun c hc=>line_len (Chg.has_of (hw.2.1.2 c hc))
 clear hw
 refine ret_fn Go.Proofs.Tryz.func34 ok_spec_l39Put rfl (show 2<500 by decide) rfl ?_;unfold c_spec_l39Put tr_spec_l39Put rs_spec_l39Put;simp only [go_sem,Nat.reduceLT,Nat.reduceAdd,↓reduceIte]
 refine loop_set [] (fun (i:Nat)=>[(0,.str (t++linesF (l.take i))),(3,.int .i64 i)]) (fun i=>i≤l.length) (fun i=>l.length-i) 0 (by simp only [go_sem];rfl) (Nat.zero_le _) (by simp [sets,setN,linesF]) ?_
 intro i hi
 have hll:=lines_len (l:=l.take i) fun c h=>hc c (List.mem_of_mem_take h)
 rw [List.length_take] at hll
 simp only [go_sem,Nat.reduceLT,Nat.reduceAdd,Nat.reduceSub,Nat.reduceLeDiff,↓reduceIte]
 refine ⟨fun h=>?_,fun h=>?_⟩
 ·have hm:=hc _ (mem_getD (d:=Chg.zero) h)
  refine ⟨h,call_of (ret_spec_l39Line (l.getD i Chg.zero) (hok _ (mem_getD h))) rfl (.inl rfl) ?_⟩
  simp only [go_sem,Nat.reduceLT,Nat.reduceAdd,Nat.reduceSub,↓reduceIte]
  refine ⟨(by simp only [maxLen,List.length_append];omega),(by simp only [maxLen,List.length_append];omega),i+1,h,by omega,?_⟩
  rw [wrap_small (by omega) (by omega),take_snoc h Chg.zero,linesF_snoc,List.append_assoc,List.append_assoc]
  rfl
 ·rw [List.take_of_length_le (by omega)] at hll ⊢
  refine ⟨(by simp only [maxLen,List.length_append];omega),call_of (ret_spec_l39Check _) rfl (.inl rfl) ?_⟩
  simp only [go_sem,Nat.reduceLT,Nat.reduceAdd,Nat.reduceSub,↓reduceIte]
  have hk:=chk7 (t:=t++linesF l)
  refine call_of (ret_dec hk.1 (by omega)) rfl (.inl rfl) ?_
  simp only [go_sem,Nat.reduceLT,Nat.reduceAdd,Nat.reduceSub,↓reduceIte]
  have:=itoa_len hk.1 (by omega)
  refine ⟨(by simp only [maxLen,List.length_append,List.length_cons,List.length_nil];omega),(by simp only [maxLen,List.length_append,List.length_cons,List.length_nil];omega),?_⟩
  unfold putF endF
  simp only [List.append_assoc]
def newF (s:Sch):List UInt8:=[115,99,104,101,109,97,32]++s.txt++[10]
def c_impl_newJournal:C := (.seq (.ops [] [⟨none,.asg 1 (.k (.str []))⟩] []) (.seq (.ops [] [⟨none,.mv (.v 0)⟩,⟨none,.call 49 [(.t 0)]⟩,⟨none,.bin .add (.k (.str [115,99,104,101,109,97,32])) (.t 1)⟩,⟨none,.bin .add (.t 2) (.k (.str [10]))⟩,⟨none,.asg 1 (.t 3)⟩] []) .ret))
def tr_impl_newJournal:List Nat:=[0,2]
def rs_impl_newJournal:List RS:=[.t 1]
theorem ok_impl_newJournal:fnOk Go.Proofs.Tryz.prog Go.Proofs.Tryz.f35 tr_impl_newJournal c_impl_newJournal 1 rs_impl_newJournal=true:=by decide +kernel
theorem ret_impl_newJournal (s:Sch) (h:TOk s):Ret Go.Proofs.Tryz.prog 35 [.v (.ptr s.cells)] (.str (newF s)):=by
 have:=txt_len h
 refine ret_fn Go.Proofs.Tryz.func35 ok_impl_newJournal rfl (show 1<500 by decide) rfl ?_;unfold c_impl_newJournal tr_impl_newJournal rs_impl_newJournal;simp only [go_sem,Nat.reduceLT,Nat.reduceAdd,Nat.reduceSub,↓reduceIte]
 refine call_of (ret_impl_Schema_text s h) rfl (.inl rfl) ?_
 simp only [go_sem,Nat.reduceLT,Nat.reduceAdd,Nat.reduceSub,↓reduceIte]
 refine ⟨(by simp only [maxLen];omega),(by simp only [maxLen];omega),?_⟩
 rfl
end Go.D3
namespace Go.D3
open Go
set_option maxRecDepth 100000
set_option maxHeartbeats 4000000
def numsO (l:List (List UInt8)):Option (List Nat):=l.mapM (numO 9)
def chgO (s:List UInt8):Option Chg:=match numsO ((spl [32] 0 s).drop 1) with
 | some [a]=>if (spl [32] 0 s).getD 0 []=[97,100,100] then some ⟨1,a,0,0⟩ else none
 | some [a,b,c]=>if (spl [32] 0 s).getD 0 []=[115,101,116] then some ⟨2,a,b,c⟩ else none
 | _=>none
def chgD:Option Chg→D
 | some c=>.tup [Chg.d c,.bool true]
 | none=>.tup [Chg.d Chg.zero,.bool false]
theorem chgD_nv (o:Option Chg):(chgD o).novw=true:=by cases o<;>rfl
theorem nums_snoc {l:List (List UInt8)} {i:Nat} {ns:List Nat} {n:Nat} (h:i<l.length) (h1:numsO (l.take i)=some ns) (h2:numO 9 (l.getD i [])=some n):numsO (l.take (i+1))=some (ns++[n]):=by
 unfold numsO at *
 rw [take_snoc h [],List.mapM_append,h1,List.mapM_cons,h2];rfl
theorem nums_bad {l:List (List UInt8)} {i:Nat} (h:i<l.length) (h2:numO 9 (l.getD i [])=none):numsO l=none:=by
 unfold numsO
 have e:l=l.take i++(l.getD i []::l.drop (i+1)):=by rw [getD_lt h,← List.drop_eq_getElem_cons h,List.take_append_drop]
 rw [e,List.mapM_append,List.mapM_cons,h2]
 cases (l.take i).mapM (numO 9)<;>rfl
theorem spl_pos {p s:List UInt8} : 0<(spl p 0 s).length:=List.length_pos_iff.2 spl_ne
def intsN (l:List Nat):List Int:=l.map fun n:Nat=>(n:Int)
theorem chg_end {s:List UInt8} {ns:List Nat} (h:numsO ((spl [32] 0 s).drop 1)=some ns):chgO s=if (spl [32] 0 s).getD 0 []=[97,100,100]∧ns.length=1 then some ⟨1,(intsN ns).getD 0 0,0,0⟩ else if (spl [32] 0 s).getD 0 []=[115,101,116]∧ns.length=3 then some ⟨2,(intsN ns).getD 0 0,(intsN ns).getD 1 0,(intsN ns).getD 2 0⟩ else none:=by
 unfold chgO
 rw [h]
 match ns with
 | []=>simp
 | [a]=>by_cases h1:(spl [32] 0 s).getD 0 []=[97,100,100]<;>simp [intsN]
 | [a,b]=>simp
 | [a,b,c]=>by_cases h1:(spl [32] 0 s).getD 0 []=[115,101,116]<;>simp [intsN]
 | a::b::c::d::r=>simp
def c_impl_parseChange:C := (.seq (.ops [1] [⟨none,.alc [.int .i64 0,.int .i64 0,.int .i64 0,.int .i64 0]⟩,⟨none,.asg 2 (.k (.bool false))⟩] [(1,0)]) (.seq (.ops [] [⟨none,.mv (.v 0)⟩,⟨none,.call 104 [(.t 0),(.k (.str [32]))]⟩,⟨none,.asg 3 (.t 1)⟩] []) (.seq (.ops [] [⟨none,.bldS (.int .i64 0) 0 []⟩,⟨none,.asg 4 (.t 0)⟩] []) (.seq (.seq (.ops [8,9] [⟨none,.mv (.v 3)⟩,⟨none,.sl (.t 0) (some (.i 1)) none⟩,⟨none,.len (.t 1)⟩,⟨none,.asg 10 (.i 0)⟩] [(8,1),(9,2)]) (.block 0 (.loop (.opq [] [⟨none,.bin .lss (.v 10) (.v 9)⟩] [] (.t 0) .skip (.exit 0) (.seq (.block 1 (.seq (.ops [] [⟨none,.idxA 1 (.v 8) (.v 10)⟩,⟨none,.ld (.t 0)⟩,⟨none,.asg 5 (.t 1)⟩] []) (.seq (.ops [] [⟨none,.mv (.v 5)⟩,⟨none,.call 105 [(.t 0)]⟩,⟨none,.mv (.t 1)⟩,⟨none,.ext 0 (.t 2)⟩,⟨none,.ext 1 (.t 2)⟩,⟨none,.asg 6 (.t 3)⟩,⟨none,.asg 7 (.t 4)⟩] []) (.seq (.opc [] [⟨none,.mv (.v 7)⟩,⟨none,.not (.t 0)⟩] [] (.t 1) (.seq (.ops [] [⟨none,.bld [.int .i64 0,.int .i64 0,.int .i64 0,.int .i64 0] []⟩,⟨none,.stn 4 (.v 1) (.t 0)⟩,⟨none,.asg 2 (.k (.bool false))⟩] []) .ret) .skip) (.ops [] [⟨none,.mv (.v 4)⟩,⟨none,.mv (.v 6)⟩,⟨none,.bldS (.int .i64 0) 1 [(0,(.t 1))]⟩,⟨none,.app 1 8 (.t 0) (.t 2)⟩,⟨none,.asg 4 (.t 3)⟩] []))))) (.ops [] [⟨none,.bin .add (.v 10) (.i 1)⟩,⟨none,.asg 10 (.t 0)⟩] [])))))) (.seq (.block 2 (.opc [] [⟨none,.mv (.v 3)⟩,⟨none,.idxA 1 (.t 0) (.i 0)⟩,⟨none,.ld (.t 1)⟩,⟨none,.bin .eql (.t 2) (.k (.str [97,100,100]))⟩,⟨none,.mv (.t 3)⟩,⟨some (4,true),.mv (.v 4)⟩,⟨some (4,true),.len (.t 5)⟩,⟨some (4,true),.bin .eql (.t 6) (.i 1)⟩,⟨none,.pick (.t 4) (.t 7) (.k (.bool false))⟩,⟨none,.mv (.t 8)⟩] [] (.t 9) (.seq (.ops [] [⟨none,.mv (.v 4)⟩,⟨none,.idxA 1 (.t 0) (.i 0)⟩,⟨none,.ld (.t 1)⟩,⟨none,.bld [.int .i64 0,.int .i64 0,.int .i64 0,.int .i64 0] [(0,1,(.i 1)),(1,1,(.t 2))]⟩,⟨none,.stn 4 (.v 1) (.t 3)⟩,⟨none,.asg 2 (.k (.bool true))⟩] []) .ret) (.opc [] [⟨none,.mv (.v 3)⟩,⟨none,.idxA 1 (.t 0) (.i 0)⟩,⟨none,.ld (.t 1)⟩,⟨none,.bin .eql (.t 2) (.k (.str [115,101,116]))⟩,⟨none,.mv (.t 3)⟩,⟨some (4,true),.mv (.v 4)⟩,⟨some (4,true),.len (.t 5)⟩,⟨some (4,true),.bin .eql (.t 6) (.i 3)⟩,⟨none,.pick (.t 4) (.t 7) (.k (.bool false))⟩,⟨none,.mv (.t 8)⟩] [] (.t 9) (.seq (.ops [] [⟨none,.mv (.v 4)⟩,⟨none,.idxA 1 (.t 0) (.i 0)⟩,⟨none,.ld (.t 1)⟩,⟨none,.mv (.v 4)⟩,⟨none,.idxA 1 (.t 3) (.i 1)⟩,⟨none,.ld (.t 4)⟩,⟨none,.mv (.v 4)⟩,⟨none,.idxA 1 (.t 6) (.i 2)⟩,⟨none,.ld (.t 7)⟩,⟨none,.bld [.int .i64 0,.int .i64 0,.int .i64 0,.int .i64 0] [(0,1,(.i 2)),(1,1,(.t 2)),(2,1,(.t 5)),(3,1,(.t 8))]⟩,⟨none,.stn 4 (.v 1) (.t 9)⟩,⟨none,.asg 2 (.k (.bool true))⟩] []) .ret) .skip))) (.seq (.ops [] [⟨none,.bld [.int .i64 0,.int .i64 0,.int .i64 0,.int .i64 0] []⟩,⟨none,.stn 4 (.v 1) (.t 0)⟩,⟨none,.asg 2 (.k (.bool false))⟩] []) .ret))))))
def tr_impl_parseChange:List Nat:=[0,2,3,4,5,7,8,9,14,15,16]
def rs_impl_parseChange:List RS:=[.c 1 4 true,.t 2]
theorem ok_impl_parseChange:fnOk Go.Proofs.Tryz.prog Go.Proofs.Tryz.f84 tr_impl_parseChange c_impl_parseChange 1 rs_impl_parseChange=true:=by decide +kernel
theorem ret_impl_parseChange (s:List UInt8) (hs:s.length≤4294966000):Ret Go.Proofs.Tryz.prog 84 [.v (.str s)] (chgD (chgO s)):=by
 refine ret_fn Go.Proofs.Tryz.func84 ok_impl_parseChange rfl (show 1<500 by decide) rfl ?_;unfold c_impl_parseChange tr_impl_parseChange rs_impl_parseChange;simp only [go_sem,Nat.reduceLT,Nat.reduceAdd,Nat.reduceSub,↓reduceIte]
 refine callv_of (ret_spl (by decide) (by omega)) rfl (.inl (nv_strs _)) ?_
 have hp:=spl_pos (p:=[32]) (s:=s)
 have hl:=spl_len (p:=[32]) (k:=0) (s:=s)
 have hm:∀ x∈spl [32] 0 s,x.length≤s.length:=fun x hx=>spl_mem hx
 have hend:=@chg_end s
 have hbad:∀ i,i<((spl [32] 0 s).drop 1).length→numO 9 (((spl [32] 0 s).drop 1).getD i [])=none→chgO s=none:=fun i h1 h2=>by
  unfold chgO
  rw [nums_bad h1 h2]
 generalize spl [32] 0 s=ws at hp hl hm hend hbad
 simp only [go_sem,Nat.reduceLT,Nat.reduceAdd,Nat.reduceSub,↓reduceIte]
 refine ⟨⟨by decide,by omega,by omega⟩,?_⟩
 rw [List.take_of_length_le (Nat.le_refl _)]
 have hvl:(ws.drop 1).length≤ws.length:=by rw [List.length_drop];omega
 have hvm:∀ x∈ws.drop 1,x.length≤s.length:=fun x hx=>hm x (List.mem_of_mem_drop hx)
 generalize ws.drop 1=vs at hend hbad hvl hvm
 refine loop_set [5,6,7] (fun (p:Nat×List Nat)=>[(4,.o (ints (intsN p.2))),(10,.int .i64 p.1)]) (fun p=>p.1≤vs.length∧p.2.length=p.1∧numsO (vs.take p.1)=some p.2) (fun p=>vs.length-p.1) (0,[]) (by simp only [go_sem,Nat.reduceLT,↓reduceIte];rfl) ⟨Nat.zero_le _,rfl,rfl⟩ rfl ?_
 rintro ⟨i,ns⟩ ⟨hi,hln,hns⟩
 simp only at hi hln hns
 simp only [go_sem,Nat.reduceLT,Nat.reduceAdd,Nat.reduceSub,Nat.reduceBEq,Nat.reduceLeDiff,↓reduceIte]
 have hil:(intsN ns).length=ns.length:=by unfold intsN;rw [List.length_map]
 refine ⟨fun h=>⟨h,?_⟩,fun h=>?_⟩
 ·have hx:=hvm _ (mem_getD (d:=[]) h)
  refine call_of (ret_impl_longDigits _ (by omega)) rfl (.inl rfl) ?_
  cases hn:numO 9 (vs.getD i []) with
  | none =>
   rw [hbad i h hn]
   simp only [go_sem,Nat.reduceLT,Nat.reduceAdd,Nat.reduceSub,Nat.reduceBEq,↓reduceIte]
   exact ⟨fun _=>rfl,fun h=>by cases h⟩
  | some n =>
   rw [pintV_num hn]
   simp only [go_sem,Nat.reduceLT,Nat.reduceAdd,Nat.reduceSub,Nat.reduceBEq,↓reduceIte]
   refine ⟨fun h=>(by cases h),fun _=>⟨by omega,(i+1,ns++[n]),⟨h,by simp [hln],nums_snoc h hns hn⟩,by show vs.length-(i+1)<_;omega,?_⟩⟩
   rw [wrap_small (by omega) (by omega)]
   unfold intsN
   rw [List.map_append];rfl
 ·rw [List.take_of_length_le (by omega)] at hns
  have he:=hend hns
  have e1:((intsN ns).length:Int)=ns.length:=by rw [hil]
  refine ⟨⟨by decide,by omega⟩,fun h1=>?_,fun h1=>⟨⟨by decide,by omega⟩,fun h2=>?_,fun h2=>?_⟩⟩
  ·simp only [Bool.and_eq_true,beq_iff_eq] at h1
   rw [he,if_pos ⟨h1.1,by omega⟩]
   exact ⟨⟨by decide,by omega⟩,rfl⟩
  ·have h1:¬ (ws.getD 0 []=[97,100,100]∧ns.length=1):=fun hh=>by
    rw [hh.1,e1,hh.2] at h1;cases h1
   simp only [Bool.and_eq_true,beq_iff_eq] at h2
   rw [he,if_neg h1,if_pos ⟨h2.1,by omega⟩]
   exact ⟨⟨by decide,by omega⟩,⟨by decide,by omega⟩,⟨by decide,by omega⟩,rfl⟩
  ·have h1:¬ (ws.getD 0 []=[97,100,100]∧ns.length=1):=fun hh=>by
    rw [hh.1,e1,hh.2] at h1;cases h1
   have h2:¬ (ws.getD 0 []=[115,101,116]∧ns.length=3):=fun hh=>by
    rw [hh.1,e1,hh.2] at h2;cases h2
   rw [he,if_neg h1,if_neg h2];rfl
def c_spec_l39Read:C := (.seq (.ops [1] [⟨none,.alc [.int .i64 0,.int .i64 0,.int .i64 0,.int .i64 0]⟩,⟨none,.asg 2 (.k (.bool false))⟩] [(1,0)]) (.seq (.ops [] [⟨none,.mv (.v 0)⟩,⟨none,.call 59 [(.t 0),(.k (.int .u8 32))]⟩,⟨none,.asg 3 (.t 1)⟩] []) (.seq (.ops [] [⟨none,.bldS (.int .i64 0) 0 []⟩,⟨none,.asg 4 (.t 0)⟩] []) (.seq (.seq (.ops [] [⟨none,.asg 5 (.i 1)⟩] []) (.block 0 (.loop (.seq (.opc [] [⟨none,.mv (.v 5)⟩,⟨none,.mv (.v 3)⟩,⟨none,.len (.t 1)⟩,⟨none,.bin .lss (.t 0) (.t 2)⟩] [] (.t 3) .skip (.exit 0)) (.seq (.block 1 (.seq (.ops [] [⟨none,.mv (.v 3)⟩,⟨none,.mv (.v 5)⟩,⟨none,.idxA 1 (.t 0) (.t 1)⟩,⟨none,.ld (.t 2)⟩,⟨none,.call 60 [(.t 3)]⟩,⟨none,.asg 6 (.t 4)⟩] []) (.seq (.opc [] [⟨none,.mv (.v 6)⟩,⟨none,.bin .lss (.t 0) (.i 0)⟩] [] (.t 1) (.seq (.ops [] [⟨none,.bld [.int .i64 0,.int .i64 0,.int .i64 0,.int .i64 0] []⟩,⟨none,.stn 4 (.v 1) (.t 0)⟩,⟨none,.asg 2 (.k (.bool false))⟩] []) .ret) .skip) (.ops [] [⟨none,.mv (.v 4)⟩,⟨none,.mv (.v 6)⟩,⟨none,.bldS (.int .i64 0) 1 [(0,(.t 1))]⟩,⟨none,.app 1 8 (.t 0) (.t 2)⟩,⟨none,.asg 4 (.t 3)⟩] [])))) (.ops [] [⟨none,.mv (.v 5)⟩,⟨none,.bin .add (.t 0) (.i 1)⟩,⟨none,.asg 5 (.t 1)⟩] [])))))) (.seq (.opc [] [⟨none,.mv (.v 3)⟩,⟨none,.idxA 1 (.t 0) (.i 0)⟩,⟨none,.ld (.t 1)⟩,⟨none,.bin .eql (.t 2) (.k (.str [97,100,100]))⟩,⟨none,.mv (.t 3)⟩,⟨some (4,true),.mv (.v 4)⟩,⟨some (4,true),.len (.t 5)⟩,⟨some (4,true),.bin .eql (.t 6) (.i 1)⟩,⟨none,.pick (.t 4) (.t 7) (.k (.bool false))⟩] [] (.t 8) (.seq (.ops [] [⟨none,.mv (.v 4)⟩,⟨none,.idxA 1 (.t 0) (.i 0)⟩,⟨none,.ld (.t 1)⟩,⟨none,.bld [.int .i64 0,.int .i64 0,.int .i64 0,.int .i64 0] [(0,1,(.i 1)),(1,1,(.t 2))]⟩,⟨none,.stn 4 (.v 1) (.t 3)⟩,⟨none,.asg 2 (.k (.bool true))⟩] []) .ret) .skip) (.seq (.opc [] [⟨none,.mv (.v 3)⟩,⟨none,.idxA 1 (.t 0) (.i 0)⟩,⟨none,.ld (.t 1)⟩,⟨none,.bin .eql (.t 2) (.k (.str [115,101,116]))⟩,⟨none,.mv (.t 3)⟩,⟨some (4,true),.mv (.v 4)⟩,⟨some (4,true),.len (.t 5)⟩,⟨some (4,true),.bin .eql (.t 6) (.i 3)⟩,⟨none,.pick (.t 4) (.t 7) (.k (.bool false))⟩] [] (.t 8) (.seq (.ops [] [⟨none,.mv (.v 4)⟩,⟨none,.idxA 1 (.t 0) (.i 0)⟩,⟨none,.ld (.t 1)⟩,⟨none,.mv (.v 4)⟩,⟨none,.idxA 1 (.t 3) (.i 1)⟩,⟨none,.ld (.t 4)⟩,⟨none,.mv (.v 4)⟩,⟨none,.idxA 1 (.t 6) (.i 2)⟩,⟨none,.ld (.t 7)⟩,⟨none,.bld [.int .i64 0,.int .i64 0,.int .i64 0,.int .i64 0] [(0,1,(.i 2)),(1,1,(.t 2)),(2,1,(.t 5)),(3,1,(.t 8))]⟩,⟨none,.stn 4 (.v 1) (.t 9)⟩,⟨none,.asg 2 (.k (.bool true))⟩] []) .ret) .skip) (.seq (.ops [] [⟨none,.bld [.int .i64 0,.int .i64 0,.int .i64 0,.int .i64 0] []⟩,⟨none,.stn 4 (.v 1) (.t 0)⟩,⟨none,.asg 2 (.k (.bool false))⟩] []) .ret)))))))
def tr_spec_l39Read:List Nat:=[0,2,3,4,5,6,7]
def rs_spec_l39Read:List RS:=[.c 1 4 true,.t 2]
theorem ok_spec_l39Read:fnOk Go.Proofs.Tryz.prog Go.Proofs.Tryz.f45 tr_spec_l39Read c_spec_l39Read 1 rs_spec_l39Read=true:=by decide +kernel
theorem ret_spec_l39Read (s:List UInt8) (hs:s.length≤4294966000):Ret Go.Proofs.Tryz.prog 45 [.v (.str s)] (chgD (chgO s)):=by
 refine ret_fn Go.Proofs.Tryz.func45 ok_spec_l39Read rfl (show 1<500 by decide) rfl ?_;unfold c_spec_l39Read tr_spec_l39Read rs_spec_l39Read;simp only [go_sem,Nat.reduceLT,Nat.reduceAdd,Nat.reduceSub,↓reduceIte]
 refine callv_of (ret_spec_l01Split s 32 (by omega)) rfl (.inl (nv_strs _)) ?_
 have hp:=spl_pos (p:=[32]) (s:=s)
 have hl:=spl_len (p:=[32]) (k:=0) (s:=s)
 have hm:∀ x∈spl [32] 0 s,x.length≤s.length:=fun x hx=>spl_mem hx
 have hend:=@chg_end s
 have hbad:∀ i,i<((spl [32] 0 s).drop 1).length→numO 9 (((spl [32] 0 s).drop 1).getD i [])=none→chgO s=none:=fun i h1 h2=>by
  unfold chgO
  rw [nums_bad h1 h2]
 generalize spl [32] 0 s=ws at hp hl hm hend hbad
 have hdl:(ws.drop 1).length+1=ws.length:=by rw [List.length_drop];omega
 have hdg:∀ i,(ws.drop 1).getD i []=ws.getD (i+1) []:=fun i=>by rw [List.getD_eq_getElem?_getD,List.getElem?_drop,Nat.add_comm 1,← List.getD_eq_getElem?_getD]
 simp only [go_sem,Nat.reduceLT,Nat.reduceAdd,Nat.reduceSub,↓reduceIte]
 refine loop_set [6] (fun (p:Nat×List Nat)=>[(4,.o (ints (intsN p.2))),(5,.int .i64 (p.1+1:Nat))]) (fun p=>p.1≤(ws.drop 1).length∧p.2.length=p.1∧numsO ((ws.drop 1).take p.1)=some p.2) (fun p=>(ws.drop 1).length-p.1) (0,[]) (by simp only [go_sem,Nat.reduceLT,↓reduceIte];rfl) ⟨Nat.zero_le _,rfl,rfl⟩ rfl ?_
 rintro ⟨i,ns⟩ ⟨hi,hln,hns⟩
 simp only at hi hln hns
 simp only [go_sem,Nat.reduceLT,Nat.reduceAdd,Nat.reduceSub,Nat.reduceBEq,Nat.reduceLeDiff,↓reduceIte]
 have hil:(intsN ns).length=ns.length:=by unfold intsN;rw [List.length_map]
 refine ⟨fun h=>⟨h,?_⟩,fun h=>?_⟩
 ·have hx:=hm _ (mem_getD (d:=[]) h)
  refine call_of (ret_spec_l01Value _) rfl (.inl (by cases numO 9 (ws.getD (i+1) [])<;>rfl)) ?_
  cases hn:numO 9 (ws.getD (i+1) []) with
  | none =>
   rw [hbad i (by omega) (by rw [hdg];exact hn)]
   simp only [valD]
   simp only [go_sem,Nat.reduceLT,Nat.reduceAdd,Nat.reduceSub,Nat.reduceBEq,↓reduceIte]
   exact ⟨fun _=>rfl,fun h=>absurd (by decide) h⟩
  | some n =>
   simp only [valD]
   simp only [go_sem,Nat.reduceLT,Nat.reduceAdd,Nat.reduceSub,Nat.reduceBEq,↓reduceIte]
   refine ⟨fun h=>by omega,fun _=>⟨by omega,(i+1,ns++[n]),⟨by show i+1≤_;omega,by simp [hln],nums_snoc (by omega) hns (by rw [hdg];exact hn)⟩,by show (ws.drop 1).length-(i+1)<_;omega,?_⟩⟩
   rw [wrap_small (by omega) (by omega)]
   unfold intsN
   rw [List.map_append];rfl
 ·rw [List.take_of_length_le (by omega)] at hns
  have he:=hend hns
  have e1:((intsN ns).length:Int)=ns.length:=by rw [hil]
  refine ⟨⟨by decide,by omega⟩,fun h1=>?_,fun h1=>⟨⟨by decide,by omega⟩,fun h2=>?_,fun h2=>?_⟩⟩
  ·simp only [Bool.and_eq_true,beq_iff_eq] at h1
   rw [he,if_pos ⟨h1.1,by omega⟩]
   exact ⟨⟨by decide,by omega⟩,rfl⟩
  ·have h1:¬ (ws.getD 0 []=[97,100,100]∧ns.length=1):=fun hh=>by
    rw [hh.1,e1,hh.2] at h1;cases h1
   simp only [Bool.and_eq_true,beq_iff_eq] at h2
   rw [he,if_neg h1,if_pos ⟨h2.1,by omega⟩]
   exact ⟨⟨by decide,by omega⟩,⟨by decide,by omega⟩,⟨by decide,by omega⟩,rfl⟩
  ·have h1:¬ (ws.getD 0 []=[97,100,100]∧ns.length=1):=fun hh=>by
    rw [hh.1,e1,hh.2] at h1;cases h1
   have h2:¬ (ws.getD 0 []=[115,101,116]∧ns.length=3):=fun hh=>by
    rw [hh.1,e1,hh.2] at h2;cases h2
   rw [he,if_neg h1,if_neg h2];rfl
end Go.D3
namespace Go.D3
open Go
set_option maxRecDepth 100000
set_option maxHeartbeats 4000000
theorem index_none {c:UInt8}:∀ {a:List UInt8},c ∉ a→Lib.index a [c]=-1
 | [],_=>rfl
 | x::a,h=>by
  have hx:x≠c:=fun hh=>h (by simp [hh])
  have:=index_none (c:=c) (a:=a) fun hh=>h (List.mem_cons_of_mem _ hh)
  have hp:([c]:List UInt8).isPrefixOf (x::a)=false:=by rw [pre_one];simpa using hx
  rw [Lib.index,hp,this];simp
theorem cut_none {c:UInt8} {a:List UInt8} (h:c ∉ a):Lib.cut a [c]=(a,[],false):=by
 unfold Lib.cut
 rw [index_none h,if_neg (by decide)]
theorem not_mem_take {c:UInt8} {t:List UInt8} {i:Nat} (h:∀ j,j<i→j<t.length→t.getD j 0≠c):c ∉ t.take i:=fun hm=>by
 obtain ⟨j,hj,he⟩:=List.getElem_of_mem hm
 rw [List.length_take] at hj
 have:=h j (by omega) (by omega)
 rw [getD_lt (by omega)] at this
 rw [List.getElem_take] at he
 exact this he
theorem cut_at {c:UInt8} {t:List UInt8} {i:Nat} (h:∀ j,j<i→t.getD j 0≠c) (hi:i<t.length) (hc:t.getD i 0=c):Lib.cut t [c]=(t.take i,t.drop (i+1),true):=by
 have e:t=t.take i++c::t.drop (i+1):=by
  conv=>lhs;rw [← List.take_append_drop i t]
  rw [drop_cons hi,hc]
 conv=>lhs;rw [e]
 exact cut_one (not_mem_take fun j hj _=>h j hj)
theorem cut_end {c:UInt8} {t:List UInt8} (h:∀ j,j<t.length→t.getD j 0≠c):Lib.cut t [c]=(t,[],false):=cut_none fun hm=>by
 have:=not_mem_take (c:=c) (t:=t) (i:=t.length) fun j hj _=>h j hj
 rw [List.take_of_length_le (Nat.le_refl _)] at this
 exact this hm
theorem cut_len {s sep:List UInt8}:(Lib.cut s sep).1.length≤s.length∧(Lib.cut s sep).2.1.length≤s.length:=by
 unfold Lib.cut
 split
 ·exact ⟨by simp only [List.length_take];omega,by simp only [List.length_drop];omega⟩
 ·exact ⟨Nat.le_refl _,by simp⟩
def schP:List UInt8:=[115,99,104,101,109,97,32]
noncomputable def headF (t:List UInt8):Option (Sch×Nat):=if ((Lib.cut t [10]).2.2&&Lib.hasPrefix (Lib.cut t [10]).1 schP)=true then (psO ((Lib.cut t [10]).1.drop 7)).map fun s=>(s,(Lib.cut t [10]).1.length+1) else none
def HdQ (t:List UInt8) (rc:D) (gs:List D):Prop:=gs=[]∧∃ (s:Sch) (n:Int) (b:Bool),rc=.o (.tup [Sch.d s,.int .i64 n,.bool b])∧b=(headF t).isSome∧∀ p,headF t=some p→s=p.1∧n=p.2
def c_impl_journalText_head:C := (.seq (.ops [1] [⟨none,.alc [.int .i64 0,.nils (.int .i64 0),.nils (.int .i64 0),.nils (.agg [.int .i64 0,ints []]),.nils (.agg [.int .i64 0,ints []])]⟩,⟨none,.asg 2 (.i 0)⟩,⟨none,.asg 3 (.k (.bool false))⟩] [(1,0)]) (.seq (.ops [] [⟨none,.mv (.v 0)⟩,⟨none,.call 81 [(.t 0),(.k (.str [10]))]⟩,⟨none,.mv (.t 1)⟩,⟨none,.ext 0 (.t 2)⟩,⟨none,.ext 1 (.t 2)⟩,⟨none,.ext 2 (.t 2)⟩,⟨none,.asg 4 (.t 3)⟩,⟨none,.mv (.t 4)⟩,⟨none,.asg 5 (.t 5)⟩] []) (.seq (.ops [] [⟨none,.mv (.v 4)⟩,⟨none,.call 82 [(.t 0),(.k (.str [115,99,104,101,109,97,32]))]⟩,⟨none,.mv (.t 1)⟩,⟨none,.ext 0 (.t 2)⟩,⟨none,.ext 1 (.t 2)⟩,⟨none,.asg 6 (.t 3)⟩,⟨none,.asg 7 (.t 4)⟩] []) (.seq (.ops [8] [⟨none,.mv (.v 6)⟩,⟨none,.call 83 [(.t 0)]⟩,⟨none,.mv (.t 1)⟩,⟨none,.ext 0 (.t 2)⟩,⟨none,.ext 1 (.t 2)⟩,⟨none,.alc [.int .i64 0,.nils (.int .i64 0),.nils (.int .i64 0),.nils (.agg [.int .i64 0,ints []]),.nils (.agg [.int .i64 0,ints []])]⟩,⟨none,.stn 5 (.t 5) (.t 3)⟩,⟨none,.asg 9 (.t 4)⟩] [(8,5)]) (.seq (.ops [] [⟨none,.lda 5 (.v 8)⟩,⟨none,.mv (.v 4)⟩,⟨none,.lenS (.t 1)⟩,⟨none,.bin .add (.t 2) (.i 1)⟩,⟨none,.mv (.v 5)⟩,⟨none,.mv (.t 4)⟩,⟨some (5,true),.mv (.v 7)⟩,⟨none,.pick (.t 5) (.t 6) (.k (.bool false))⟩,⟨none,.mv (.t 7)⟩,⟨some (8,true),.mv (.v 9)⟩,⟨some (8,true),.bin .eql (.t 9) (.i 0)⟩,⟨none,.pick (.t 8) (.t 10) (.k (.bool false))⟩,⟨none,.stn 5 (.v 1) (.t 0)⟩,⟨none,.asg 2 (.t 3)⟩,⟨none,.asg 3 (.t 11)⟩] []) .ret)))))
def tr_impl_journalText_head:List Nat:=[0,2,3,4,5,7,8,9,10,11]
def rs_impl_journalText_head:List RS:=[.c 1 5 true,.t 2,.t 3]
theorem ok_impl_journalText_head:fnOk Go.Proofs.Tryz.prog Go.Proofs.Tryz.f62 tr_impl_journalText_head c_impl_journalText_head 1 rs_impl_journalText_head=true:=by decide +kernel
theorem ret_impl_journalText_head (t:List UInt8) (ht:t.length≤4294966000):RetE Go.Proofs.Tryz.prog 62 [.str t] [] (HdQ t):=by
 refine ret_fnE .tree Go.Proofs.Tryz.func62 rfl ok_impl_journalText_head rfl ⟨by simp only [List.length_cons,List.length_nil];decide,by simp only [List.length_nil];decide⟩ rfl ?_;unfold c_impl_journalText_head tr_impl_journalText_head rs_impl_journalText_head;simp only [go_sem,Nat.reduceLT,Nat.reduceAdd,Nat.reduceSub,↓reduceIte]
 refine call_of (ret_cut (by omega)) rfl (.inl rfl) ?_
 have hcl:=(cut_len (s:=t) (sep:=[10])).1
 have hh:headF t=if ((Lib.cut t [10]).2.2&&Lib.hasPrefix (Lib.cut t [10]).1 schP)=true then (psO ((Lib.cut t [10]).1.drop 7)).map fun s=>(s,(Lib.cut t [10]).1.length+1) else none:=rfl
 generalize Lib.cut t [10]=c at hcl hh
 simp only [go_sem,Nat.reduceLT,Nat.reduceAdd,Nat.reduceSub,↓reduceIte]
 refine call_of ret_cutPrefix rfl (.inl rfl) ?_
 simp only [go_sem,Nat.reduceLT,Nat.reduceAdd,Nat.reduceSub,↓reduceIte]
 have htl:(Lib.trimPrefix c.1 schP).length≤c.1.length:=by unfold Lib.trimPrefix;split<;>simp
 refine call_of (ret_impl_ParseSchema (Lib.trimPrefix c.1 schP) (by omega)) rfl (.inl (psD_nv _)) ?_
 have ht7:Lib.hasPrefix c.1 schP=true→Lib.trimPrefix c.1 schP=c.1.drop 7:=fun h=>by unfold Lib.trimPrefix;rw [if_pos h];rfl
 cases hp:psO (Lib.trimPrefix c.1 schP) with
 | none =>
  simp only [psD]
  simp only [go_sem,Nat.reduceLT,Nat.reduceAdd,Nat.reduceSub,Nat.reduceEqDiff,Nat.reduceBEq,Nat.reduceLeDiff,↓reduceIte]
  have hF:headF t=none:=by
   rw [hh]
   split
   ·rename_i h
    rw [Bool.and_eq_true] at h
    rw [← ht7 h.2,hp];rfl
   ·rfl
  refine ⟨_,_,⟨rfl,Sch.zero,_,_,rfl,?_,fun p h=>by rw [hF] at h;cases h⟩,rfl,rfl,trivial⟩
  rw [hF,show ((6:Int) == 0)=false from rfl,Bool.and_false];rfl
 | some s =>
  simp only [psD]
  simp only [go_sem,Nat.reduceLT,Nat.reduceAdd,Nat.reduceSub,Nat.reduceEqDiff,Nat.reduceBEq,Nat.reduceLeDiff,↓reduceIte]
  rw [show ((0:Int) == 0)=true from rfl,Bool.and_true]
  have hF:headF t=if (c.2.2&&Lib.hasPrefix c.1 schP)=true then some (s,c.1.length+1) else none:=by
   rw [hh]
   split
   ·rename_i h
    rw [Bool.and_eq_true] at h
    rw [← ht7 h.2,hp];rfl
   ·rfl
  refine ⟨_,_,⟨rfl,s,_,_,rfl,?_,fun p h=>?_⟩,rfl,rfl,trivial⟩
  ·rw [hF]
   show (c.2.2&&Lib.hasPrefix c.1 schP)=_
   split
   ·rename_i h;rw [h];rfl
   ·rename_i h;rw [Bool.not_eq_true] at h;rw [h];rfl
  ·rw [hF] at h
   split at h
   ·injection h with h
    rw [← h,wrap_small (by omega) (by omega)]
    exact ⟨rfl,rfl⟩
   ·cases h
def c_spec_l39Header:C := (.seq (.ops [1] [⟨none,.alc [.int .i64 0,.nils (.int .i64 0),.nils (.int .i64 0),.nils (.agg [.int .i64 0,ints []]),.nils (.agg [.int .i64 0,ints []])]⟩,⟨none,.asg 2 (.i 0)⟩,⟨none,.asg 3 (.k (.bool false))⟩] [(1,0)]) (.seq (.ops [] [⟨none,.asg 4 (.i 0)⟩] []) (.seq (.block 0 (.loop (.seq (.opc [] [⟨none,.mv (.v 4)⟩,⟨none,.mv (.v 0)⟩,⟨none,.lenS (.t 1)⟩,⟨none,.bin .lss (.t 0) (.t 2)⟩,⟨none,.mv (.t 3)⟩,⟨some (4,true),.mv (.v 0)⟩,⟨some (4,true),.mv (.v 4)⟩,⟨some (4,true),.idxS (.t 5) (.t 6)⟩,⟨some (4,true),.bin .neq (.t 7) (.k (.int .u8 10))⟩,⟨none,.pick (.t 4) (.t 8) (.k (.bool false))⟩] [] (.t 9) .skip (.exit 0)) (.block 1 (.ops [] [⟨none,.mv (.v 4)⟩,⟨none,.bin .add (.t 0) (.i 1)⟩,⟨none,.asg 4 (.t 1)⟩] []))))) (.seq (.opc [] [⟨none,.mv (.v 4)⟩,⟨none,.mv (.v 0)⟩,⟨none,.lenS (.t 1)⟩,⟨none,.bin .eql (.t 0) (.t 2)⟩,⟨none,.mv (.t 3)⟩,⟨some (4,false),.mv (.v 4)⟩,⟨some (4,false),.bin .lss (.t 5) (.i 7)⟩,⟨none,.pick (.t 4) (.k (.bool true)) (.t 6)⟩,⟨none,.mv (.t 7)⟩,⟨some (8,false),.mv (.v 0)⟩,⟨some (8,false),.slS (.t 9) none (some (.i 7))⟩,⟨some (8,false),.bin .neq (.t 10) (.k (.str [115,99,104,101,109,97,32]))⟩,⟨none,.pick (.t 8) (.k (.bool true)) (.t 11)⟩] [] (.t 12) (.seq (.ops [] [⟨none,.bld [.int .i64 0,.nils (.int .i64 0),.nils (.int .i64 0),.nils (.agg [.int .i64 0,ints []]),.nils (.agg [.int .i64 0,ints []])] []⟩,⟨none,.stn 5 (.v 1) (.t 0)⟩,⟨none,.asg 2 (.i 0)⟩,⟨none,.asg 3 (.k (.bool false))⟩] []) .ret) .skip) (.seq (.ops [5] [⟨none,.mv (.v 0)⟩,⟨none,.mv (.v 4)⟩,⟨none,.slS (.t 0) (some (.i 7)) (some (.t 1))⟩,⟨none,.call 58 [(.t 2)]⟩,⟨none,.mv (.t 3)⟩,⟨none,.ext 0 (.t 4)⟩,⟨none,.ext 1 (.t 4)⟩,⟨none,.alc [.int .i64 0,.nils (.int .i64 0),.nils (.int .i64 0),.nils (.agg [.int .i64 0,ints []]),.nils (.agg [.int .i64 0,ints []])]⟩,⟨none,.stn 5 (.t 7) (.t 5)⟩,⟨none,.asg 6 (.t 6)⟩] [(5,7)]) (.seq (.ops [] [⟨none,.lda 5 (.v 5)⟩,⟨none,.mv (.v 4)⟩,⟨none,.bin .add (.t 1) (.i 1)⟩,⟨none,.mv (.v 6)⟩,⟨none,.bin .eql (.t 3) (.i 0)⟩,⟨none,.stn 5 (.v 1) (.t 0)⟩,⟨none,.asg 2 (.t 2)⟩,⟨none,.asg 3 (.t 4)⟩] []) .ret))))))
def tr_spec_l39Header:List Nat:=[0,2,3,4,5,6,7]
def rs_spec_l39Header:List RS:=[.c 1 5 true,.t 2,.t 3]
theorem ok_spec_l39Header:fnOk Go.Proofs.Tryz.prog Go.Proofs.Tryz.f41 tr_spec_l39Header c_spec_l39Header 1 rs_spec_l39Header=true:=by decide +kernel
theorem ret_spec_l39Header (t:List UInt8) (ht:t.length≤4294966000):RetE Go.Proofs.Tryz.prog 41 [.str t] [] (HdQ t):=by
 have no:∀ n:Int,headF t=none→HdQ t (.o (.tup [Sch.d Sch.zero,.int .i64 n,.bool false])) []:=fun n h=>⟨rfl,Sch.zero,n,false,rfl,by rw [h];rfl,fun p hp=>by rw [h] at hp;cases hp⟩
 refine ret_fnE .tree Go.Proofs.Tryz.func41 rfl ok_spec_l39Header rfl ⟨by simp only [List.length_cons,List.length_nil];decide,by simp only [List.length_nil];decide⟩ rfl ?_;unfold c_spec_l39Header tr_spec_l39Header rs_spec_l39Header;simp only [go_sem,Nat.reduceLT,Nat.reduceAdd,Nat.reduceSub,↓reduceIte]
 refine loop_set [] (fun (i:Nat)=>[(4,.int .i64 i)]) (fun i=>i≤t.length∧∀ j,j<i→t.getD j 0≠10) (fun i=>t.length-i) 0 (by simp only [go_sem];rfl) ⟨Nat.zero_le _,fun j hj=>absurd hj (Nat.not_lt_zero _)⟩ rfl ?_
 rintro i ⟨hi,hno⟩
 simp only [go_sem,Nat.reduceLT,Nat.reduceAdd,Nat.reduceSub,Nat.reduceEqDiff,↓reduceIte]
 have hb:=(t.getD i 0).toNat_lt
 refine ⟨fun h=>?_,fun h=>⟨(fun h1=>by rw [h1];rfl),(fun h1=>⟨h1,by decide,?_⟩),(fun h=>by simp only [Bool.or_eq_false_iff,Bool.and_eq_true,Bool.not_eq_true'] at h ⊢;exact h),fun h1=>⟨_,_,no 0 ?_,rfl,rfl,trivial⟩,fun h1=>?_⟩⟩
 ·simp only [Bool.and_eq_true,decide_eq_true_eq,bne_iff_ne,ne_eq] at h
  refine ⟨i+1,⟨h.1,fun j hj hc=>?_⟩,by omega,by rw [wrap_small (by omega) (by omega)];rfl⟩
  by_cases hji:j<i
  ·exact hno j hji hc
  ·rw [show j=i by omega] at hc
   exact h.2 (by rw [hc];rfl)
 ·simp only [Bool.and_eq_true,Bool.not_eq_true',decide_eq_false_iff_not] at h1
  omega
 ·unfold headF
  by_cases hit:i=t.length
  ·rw [cut_end fun j hj=>hno j (by omega)];rfl
  ·simp only [Bool.and_eq_false_iff,decide_eq_false_iff_not,bne_eq_false_iff_eq] at h
   have hc:t.getD i 0=10:=UInt8.toNat_inj.1 (by show _=10;omega)
   rw [cut_at hno (by omega) hc,if_neg]
   intro hh
   simp only [Bool.true_and] at hh
   obtain ⟨r,hr⟩:=List.isPrefixOf_iff_prefix.1 hh
   have hl:(t.take i).length=i:=by rw [List.length_take];omega
   have h7 : 7≤i:=by rw [← hl,← hr,List.length_append];show 7≤7+_;omega
   have ht7:t.take 7=schP:=by
    have:(t.take i).take 7=schP:=by rw [← hr];exact List.take_left' rfl
    rwa [List.take_take,Nat.min_eq_left h7] at this
   have e7:(Int.toNat 7)=7:=rfl
   rw [e7,ht7] at h1
   simp only [Bool.or_eq_true,beq_iff_eq,decide_eq_true_eq,Bool.not_eq_true',beq_eq_false_iff_ne,ne_eq] at h1
   rcases h1 with (h1 | h1) | h1
   ·omega
   ·omega
   ·exact h1 rfl
 ·simp only [Bool.or_eq_false_iff,beq_eq_false_iff_ne,ne_eq,decide_eq_false_iff_not,Bool.not_eq_false',beq_iff_eq] at h1
  obtain ⟨⟨h1,h7⟩,hs⟩:=h1
  simp only [Bool.and_eq_false_iff,decide_eq_false_iff_not,bne_eq_false_iff_eq] at h
  have hc:t.getD i 0=10:=UInt8.toNat_inj.1 (by show _=10;omega)
  have e7:(Int.toNat 7)=7:=rfl
  rw [e7] at hs ⊢
  have hpre:Lib.hasPrefix (t.take i) schP=true:=by
   refine List.isPrefixOf_iff_prefix.2 ⟨(t.take i).drop 7,?_⟩
   have:(t.take i).take 7=schP:=by rw [List.take_take,Nat.min_eq_left (by omega)];exact hs
   rw [← this,List.take_append_drop]
  have hF:headF t=(psO ((t.take i).drop 7)).map fun s=>(s,i+1):=by
   unfold headF
   rw [cut_at hno (by omega) hc,if_pos (by rw [hpre];rfl)]
   congr 1
   funext s
   show (s,(t.take i).length+1)=_
   rw [List.length_take,Nat.min_eq_left hi]
  refine ⟨by omega,call_of (ret_spec_ParseSchema ((t.take i).drop 7) (by rw [List.length_drop,List.length_take];omega)) rfl (.inl (psD_nv _)) ?_⟩
  cases hp:psO ((t.take i).drop 7) with
  | none =>
   rw [hp] at hF
   simp only [psD]
   simp only [go_sem,Nat.reduceLT,Nat.reduceAdd,Nat.reduceSub,Nat.reduceEqDiff,Nat.reduceBEq,Nat.reduceLeDiff,↓reduceIte]
   exact ⟨_,_,no _ hF,rfl,rfl,trivial⟩
  | some s =>
   rw [hp] at hF
   simp only [psD]
   simp only [go_sem,Nat.reduceLT,Nat.reduceAdd,Nat.reduceSub,Nat.reduceEqDiff,Nat.reduceBEq,Nat.reduceLeDiff,↓reduceIte]
   refine ⟨_,_,⟨rfl,s,_,_,rfl,by rw [hF];rfl,fun p h=>?_⟩,rfl,rfl,trivial⟩
   rw [hF] at h
   injection h with h
   rw [← h,wrap_small (by omega) (by omega)]
   exact ⟨rfl,rfl⟩
end Go.D3
