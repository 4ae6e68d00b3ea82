/- CONTRACTS: keys: the program's side. -/
import Derived.Test.YtaknpcdnmecblaaHG
import Derived.Test.YtaknpcdnmecblaaProg
namespace Go.D3
open Go
def kC(n:Int):UInt8:=UInt8.ofNat n.toNat
def rS(l:List Int):List UInt8:=l.map kC++[255]
def ie(l:List (List Int)):List UInt8:=l.flatMap rS
def iC(l:List Int):Prop:=∀x∈l,0<=x/\x<255
theorem Gi{a b:Int}(ha : 0<=a/\a<255)(hb : 0<=b/\b<255)(h:kC a=kC b):a=b:=by
 have:=congrArg UInt8.toNat h;simp only[kC,UInt8.toNat_ofNat'] at this;omega
theorem BO:∀{a b:List Int},iC a->iC b->a.map kC=b.map kC->a=b
 | [],[],_,_,_=>rfl
 | [],_::_,_,_,h=>by cases h
 | _::_,[],_,_,h=>by cases h
 | x::a,y::b,ha,hb,h=>by
  simp only[List.map_cons,List.cons.injEq] at h;rw[Gi (ha x List.mem_cons_self) (hb y List.mem_cons_self) h.1,BO (fun z hz=>ha z (List.mem_cons_of_mem _ hz)) (fun z hz=>hb z (List.mem_cons_of_mem _ hz)) h.2]
theorem HP{a b:List Int}(ha:iC a)(hb:iC b)(h:rS a=rS b):a=b:=BO ha hb (List.append_inj_left' h rfl)
def j5(ks:Nat->List UInt8)(n:Nat):List (List UInt8×Int):=(List.range n).map fun j=>(ks j,(j:Int))
theorem LV{ks:Nat->List UInt8}{n:Nat}:(j5 ks n).length=n:=by simp[j5]
theorem LW{ks:Nat->List UInt8}{n:Nat}(h:∀j,j<n->ks j≠ks n):fW (j5 ks n) (ks n) (n:Int)=j5 ks (n+1):=by
 have:dR (j5 ks n) (ks n)=none:=by
  unfold dR;rw[List.findIdx?_eq_none_iff];intro e he;obtain⟨j,hj,rfl⟩:=List.mem_map.1 he;have:=h j (List.mem_range.1 hj);simp only[beq_eq_false_iff_ne,ne_eq];exact fun e=>this e.symm
 unfold fW;rw[this];simp only;unfold j5;rw[List.range_succ,List.map_append];rfl
theorem LU{ks:Nat->List UInt8}{n i:Nat}(hi:i<n)(h:∀j,j<n->ks j=ks i->j=i)(z:Int):mz (j5 ks n) (ks i) z=i:=by
 unfold mz;cases hf:(j5 ks n).find? fun e=>ks i == e.1 with
 | none =>
  rw[List.find?_eq_none] at hf;exact absurd (by simp) (hf (ks i,(i:Int)) (List.mem_map.2 ⟨i,List.mem_range.2 hi,rfl⟩))
 | some e =>
  have h1:=List.find?_some hf;have h2:=List.mem_of_find?_eq_some hf;obtain⟨j,hj,rfl⟩:=List.mem_map.1 h2;have:j=i:=h j (List.mem_range.1 hj) (by have:=h1;simp only[beq_iff_eq] at this;exact this.symm);subst this;rfl
end Go.D3
namespace Go.D3
open Go Proofs
set_option maxHeartbeats 4000000
set_option maxRecDepth 100000
def jL(ll:List (List Int)):List Int:=ll.flatMap fun l=>l++[255]
theorem HS{ll:List (List Int)}{l:List Int}:jL (ll++[l])=jL ll++l++[255]:=by simp[jL]
theorem HR{ll:List (List Int)}:(jL ll).map kC=ie ll:=by
 induction ll with
 | nil=>rfl
 | cons l r ih =>
  show((l++[255])++jL r).map kC=rS l++ie r;rw[List.map_append,ih,List.map_append];rfl
theorem HQ{ll:List (List Int)}(h:∀l∈ll,l.length<=64):(jL ll).length<=ll.length*65:=by
 induction ll with
 | nil=>exact Nat.le_refl _
 | cons l r ih =>
  have h1:=h l List.mem_cons_self;have h2:=ih fun m hm=>h m (List.mem_cons_of_mem _ hm)
  show((l++[255])++jL r).length<=_;simp only[List.length_append,List.length_cons,List.length_nil];omega
theorem O3{n:Int}(h : 0<=n/\n<255):IntKind.u8.wrap n=n:=oQ ⟨by simp only[IntKind.min,IntKind.signed];simpa using h.1,by simp only[IntKind.max,IntKind.signed,IntKind.bits];simp;omega⟩
def ye:List Nat:=[0,2,3,5,7,9,10,11,15,16,17]
def D0:Sl:=al Try.types Try.f39 ye []
theorem Kl:aX Try.prog Try.f39 ye D0 1=true:=by decide +kernel
theorem wW(ll:List (List Int))(hs:∀l∈ll,iC l/\l.length<=64)(hl:ll.length<=64):aD Try.prog 39 [.v (aB ll)] (.str (ie ll)):=by
 have hb:=fun i=>HQ (ll:=ll.take i) fun l hm=>(hs l (List.mem_of_mem_take hm)).2
 refine a7 Try.func39 Kl ?_;unfold D0 al ye;simp only[go_sem];refine ba [3,4,8,9,10] (fun(i:Nat)=>[(7,.int .i64 i),(2,.o (bytes (jL (ll.take i))))]) (fun i=>i<=ll.length) (fun i=>ll.length-i) 0 (by simp only[go_sem];rfl) (Nat.zero_le _) rfl ?_;intro i hi;have hbi:=hb i;rw[List.length_take] at hbi;simp only[go_sem];refine⟨fun h1=>⟨h1,?_⟩,fun h1=>?_⟩
 ·have hm:ll.getD i []∈ll:=by rw[bT h1];exact List.getElem_mem _
  obtain⟨hsm,hl64⟩:=hs _ hm;refine ba [4] (fun(j:Nat)=>[(10,.int .i64 j),(2,.o (bytes (jL (ll.take i)++(ll.getD i []).take j)))]) (fun j=>j<=(ll.getD i []).length) (fun j=>(ll.getD i []).length-j) 0 (by simp only[go_sem];rfl) (Nat.zero_le _) (by simp only[go_sem,List.take_zero,List.append_nil];rfl) ?_;intro j hj;simp only[go_sem];refine⟨fun h2=>⟨h2,?_⟩,fun h2=>?_⟩
  ·rw[O3 (hsm _ (by rw[bT h2];exact List.getElem_mem _))]
   refine⟨by rw[List.length_append,List.length_take];omega,j+1,h2,by omega,?_⟩;rw[aU h2 (by simp only[maxLen];omega),nh h2 0,List.append_assoc]
  ·rw[List.take_of_length_le (show(ll.getD i []).length<=j by omega)]
   refine⟨by rw[List.length_append];omega,i+1,h1,by omega,?_⟩;rw[aU h1 (by simp only[maxLen];omega),nh h1 [],HS]
 ·rw[List.take_of_length_le (by omega)]
  exact congrArg D.str HR
end Go.D3
