/- CONTRACTS: keys: the program's side. -/
import Derived.Test.YtaknpcdnmecblaaGreatDoorGAC
import Derived.Test.YtaknpcdnmecblaaGreatDoorProg
namespace Go.D3
open Go Proofs
set_option maxHeartbeats 4000000
set_option maxRecDepth 100000
def mU(ll:List (List Int)):List Int:=ll.flatMap fun l=>l++[255]
theorem Q8{ll:List (List Int)}{l:List Int}:mU (ll++[l])=mU ll++l++[255]:=by simp[mU]
theorem Q7{ll:List (List Int)}:(mU ll).map nR=tB ll:=by
 induction ll with
 | nil=>rfl
 | cons l r I =>
  show((l++[255])++mU r).map nR=zB l++tB r;rw[List.map_append,I,List.map_append];rfl
theorem Q6{ll:List (List Int)}(h:∀l∈ll,l.length<=64):(mU ll).length<=ll.length*65:=by
 induction ll with
 | nil=>exact Nat.le_refl _
 | cons l r I =>
  have h1:=h l List.mem_cons_self;have S:=I fun m hm=>h m (List.mem_cons_of_mem _ hm)
  show((l++[255])++mU r).length<=_;simp only[List.length_append,List.length_cons,List.length_nil];omega
theorem abo{n:Int}(h : 0<=n/\n<255):IntKind.u8.wrap n=n:=lA ⟨by simp only[IntKind.min,IntKind.signed];simpa using h.1,by simp only[IntKind.max,IntKind.signed,IntKind.bits];simp;omega⟩
def CF:List Nat:=[0,2,3,5,7,9,10,11,15,16,17]
def KI:Sl:=ah Tryz.types Tryz.f258 CF []
theorem Ul:aE Tryz.prog Tryz.f258 CF KI 1=true:=by decide +kernel
theorem Ys(ll:List (List Int))(Y:∀l∈ll,oU l/\l.length<=64)(hl:ll.length<=64):aA Tryz.prog 258 [.v (aC ll)] (.str (tB ll)):=by
 have Z:=fun i=>Q6 (ll:=ll.take i) fun l hm=>(Y l (List.mem_of_mem_take hm)).2
 refine aQ Tryz.func258 Ul ?_;unfold KI ah CF;simp only[go_sem];refine au [3,4,8,9,10] (fun(i:Nat)=>[(7,.int .i64 i),(2,.o (bytes (mU (ll.take i))))]) (fun i=>i<=ll.length) (fun i=>ll.length-i) 0 (by simp only[go_sem];rfl) (Nat.zero_le _) rfl ?_;intro i hi;have S:=Z i;rw[List.length_take] at S;simp only[go_sem];refine⟨fun h1=>⟨h1,?_⟩,fun h1=>?_⟩
 ·have hm:ll.getD i []∈ll:=by rw[aM h1];exact List.getElem_mem _
  obtain⟨V,W⟩:=Y _ hm;refine au [4] (fun(j:Nat)=>[(10,.int .i64 j),(2,.o (bytes (mU (ll.take i)++(ll.getD i []).take j)))]) (fun j=>j<=(ll.getD i []).length) (fun j=>(ll.getD i []).length-j) 0 (by simp only[go_sem];rfl) (Nat.zero_le _) (by simp only[go_sem,List.take_zero,List.append_nil];rfl) ?_;intro j hj;simp only[go_sem];refine⟨fun I=>⟨I,?_⟩,fun I=>?_⟩
  ·rw[abo (V _ (by rw[aM I];exact List.getElem_mem _))]
   refine⟨by rw[List.length_append,List.length_take];omega,j+1,I,by omega,?_⟩;rw[aw I (by simp only[maxLen];omega),b7 I 0,List.append_assoc]
  ·rw[List.take_of_length_le (show(ll.getD i []).length<=j by omega)]
   refine⟨by rw[List.length_append];omega,i+1,h1,by omega,?_⟩;rw[aw h1 (by simp only[maxLen];omega),b7 h1 [],Q8]
 ·rw[List.take_of_length_le (by omega)]
  exact congrArg D.str Q7
end Go.D3
