/- CONTRACTS: words that are split, the program's side. -/
import Derived.Test.YtpjbamibcngihaaGreatDoorGAH
namespace Go.D3
open Go
set_option maxHeartbeats 4000000
set_option maxRecDepth 100000
set_option maxHeartbeats 1000000
theorem Vs{a:List UInt8}:D.slice (.str []) [.str a]=dY [a]:=rfl
attribute [go_sem] Vs
def iB(w:List UInt8):Option (Nat×Nat):=match bA 6 (Lib.cut w [62]).1,(Lib.cut w [62]).2.2,bA 6 (Lib.cut w [62]).2.1 with
 | some a,true,some b=>some (a,b)
 | _,_,_=>none
def zZ:Option (Nat×Nat)->D
 | some (a,b)=>.o (.au [ints [(a:Int),(b:Int)],.bj])
 | none=>.o (.au [ints [],eS])
def A1:List Nat:=[0,1,4,5,6,8,9,10,11,12,13,17,18,19]
def I0:Sl:=ak Go.Proofs.Tryz.types Go.Proofs.Tryz.f135 A1 []
theorem Q6:aF Go.Proofs.Tryz.prog Go.Proofs.Tryz.f135 A1 I0 2=true:=by decide +kernel
theorem UA(w:List UInt8)(hw:w.length<=4294967000):fV Go.Proofs.Tryz.prog 135 [.str w,.sub 0 []] [.row (.str []) [.str [62]]] (zZ (iB w)) [.dead]:=by
 refine mN .tree Go.Proofs.Tryz.func135 Q6 ?_;unfold I0 ak A1;simp only[go_sem];refine⟨by decide,?_⟩
 refine aE [5,6,7,8,9,10] (fun(p:Nat×List UInt8×List Int)=>[(0,.str p.2.1),(4,.o (ints p.2.2)),(13,.int .i64 p.1)])
  (fun p=>(p.1=0/\p.2.1=w/\p.2.2=[])\/(p.1=1/\(Lib.cut w [62]).2.2=true/\p.2.1=(Lib.cut w [62]).2.1/\∃a,bA 6 (Lib.cut w [62]).1=some a/\p.2.2=[(a:Int)])\/(p.1=2/\∃a b,iB w=some (a,b)/\p.2.2=[(a:Int),(b:Int)]))
  (fun p=>2-p.1) (0,w,[]) (by simp only[go_sem];rfl) (.inl ⟨rfl,rfl,rfl⟩) rfl ?_
 rintro⟨i,u,l⟩ h;simp only at h;rcases h with⟨rfl,rfl,rfl⟩ | ⟨rfl,hf,rfl,a,ha,rfl⟩ | ⟨rfl,a,b,hab,rfl⟩
 all_goals simp only[go_sem]
 ·refine av (rL (by omega)) rfl (.inl rfl) ?_
  simp only[go_sem];intro _;refine av (rM _) rfl (.inr trivial) ?_;cases ha:bA 6 (Lib.cut u [62]).1 with
  | none =>
   have hs:iB u=none:=by unfold iB;rw[ha]
   rw[hs];simp only[jl];simp only[go_sem];rfl
  | some a =>
   simp only[jl];simp only[go_sem];refine⟨fun h=>?_,fun h=>⟨by decide,(1,(Lib.cut u [62]).2.1,[(a:Int)]),.inr (.inl ⟨rfl,by simpa using h,rfl,a,rfl,rfl⟩),Nat.lt_succ_self 1,rfl⟩⟩
   have hs:iB u=none:=by
    unfold iB;rw[ha,show(Lib.cut u [62]).2.2=false by simpa using h]
   rw[hs];rfl
 ·have hcl:(Lib.cut w [62]).2.1.length<=w.length:=by
   unfold Lib.cut;split
   ·simp only[List.length_drop];omega
   ·simp
  refine av (rL (by omega)) rfl (.inl rfl) ?_;simp only[go_sem];refine⟨?_,fun h=>by simp at h⟩;refine av (rM _) rfl (.inr trivial) ?_;cases hb:bA 6 (Lib.cut w [62]).2.1 with
  | none =>
   have hs:iB w=none:=by unfold iB;rw[ha,hf,hb]
   rw[hs];simp only[jl];simp only[go_sem];rfl
  | some b =>
   simp only[jl];simp only[go_sem];have hs:iB w=some (a,b):=by unfold iB;rw[ha,hf,hb]
   exact⟨by decide,(2,_,[(a:Int),(b:Int)]),.inr (.inr ⟨rfl,a,b,hs,rfl⟩),Nat.lt_succ_self 0,rfl⟩
 ·rw[hab];rfl
end Go.D3
