/- CONTRACTS: the class of a path; the classes in order: the program's side. -/
import Derived.Test.YtaknpcdnmecblaaGreatDoorGAG
import Derived.Test.YtaknpcdnmecblaaGreatDoorGAC
import Derived.Test.YtaknpcdnmecblaaGreatDoorGAH
namespace Go.D3
open Go Proofs
set_option maxHeartbeats 4000000
set_option maxRecDepth 100000
abbrev ui(list:List U)(cl:List Int)(K:List U):D:=.ptr [mq list,ints cl,ae U.d U.zero K]
def CK:List Nat:=[0,1,2,6]
def KN:Sl:=ah Tryz.types Tryz.f168 CK []
theorem Uq:aE Tryz.prog Tryz.f168 CK KN 3=true:=by decide +kernel
theorem w6{s:aa}(V:iM s){list K:List U}{cl:List Int}(R:lC s list cl K){i:Nat}(hi:i<list.length)(x:Int)(ed:List Int)(S:list.getD i U.zero=⟨x,ed⟩) :
  aA Tryz.prog 168 [.v (ui list cl K),.v (.int .i64 x),.v (ints ed)] (.int .i64 (cl.getD i 0)):=by
 have W:∀p∈list,s.sp p:=R.sh.a.v;have I:s.sp ⟨x,ed⟩:=S▸W _ (dj hi);have h6:ed.length<=6:=by obtain⟨z,hz⟩:=I;exact(bN.1 hz).2.1
 have ab:=R.c.len;refine aQ Tryz.func168 Uq ?_;unfold KN ah CK;simp only[go_sem];refine aj (A5 x ed (uI V I) (by omega)) rfl (.inl rfl) ?_;simp only[go_sem];obtain⟨j,hj,Y,Z⟩:=ET V W R.sh.nd (p:=⟨x,ed⟩) (S▸dj hi);obtain rfl:j=i:=getD_inj R.sh.nd hj hi (Y.trans S.symm);rw[Z];exact⟨⟨by omega,by omega⟩,rfl⟩
def Cj:List Nat:=[0,1,2,3,6,7,8,9,11,13]
def Kk:Sl:=ah Tryz.types Tryz.f232 Cj []
theorem TZ:aE Tryz.prog Tryz.f232 Cj Kk 4=true:=by decide +kernel
theorem YB[Mode]{s:aa}(hs:iM s)(X Y:D){K:List U}(hK:∀p∈K,s.sp p)(a b:Nat)(ha:a<K.length)(hb:b<K.length) :
  aA Tryz.prog 232 [.v (.int .i64 a),.v (.int .i64 b),.v (.ptr [.ptr [X,Y,ae U.d U.zero K]]),.v (.ptr [.ptr s.cells])] (.int .i64 (py s (K.getD a U.zero) (K.getD b U.zero))):=by
 obtain⟨u,hu⟩:=hK _ (dj (d:=U.zero) ha);obtain⟨v,W⟩:=hK _ (dj (d:=U.zero) hb);have I:=hs.to;have Z:=hs.n0;refine aQ Tryz.func232 TZ ?_;unfold Kk ah Cj;simp only[go_sem];have S:=oM s (K.getD a U.zero) I Z;have V:=oM s (K.getD b U.zero) I Z;rw[hu] at S;rw[W] at V;simp only[kD] at S V;have ab:=(bN.1 hu).2.1;have ad:=(bN.1 W).2.1;refine⟨ha,hb,aj S rfl (.inl rfl) ?_⟩;simp only[go_sem];refine aj V rfl (.inl rfl) ?_;simp only[go_sem];refine aj (A2 [(K.getD a U.zero).st,u] [(K.getD b U.zero).st,v] (Nat.le_of_ble_eq_true rfl) (Nat.le_of_ble_eq_true rfl)) rfl (.inl rfl) ?_;simp only[go_sem];unfold py aa.en;rw[hu,W,Option.getD_some,Option.getD_some];refine⟨fun h=>?_,fun h=>?_⟩
 ·rw[bne_iff_ne] at h
  rw[if_pos h]
 ·rw[bne_eq_false_iff_eq] at h
  rw[if_neg (by rw[Decidable.not_not];exact h)];refine aj (Jv (K.getD a U.zero) (K.getD b U.zero) (by omega) (by omega)) rfl (.inl rfl) ?_;simp only[go_sem]
theorem aau:fB Tryz.prog 231=true:=by
 simp only[fB,Tryz.func231];rfl
theorem Gi{n:Nat}:((List.finRange n).map fun i=>(i.1:Int))=bk n:=by
 refine List.ext_getElem (by simp[bk]) fun i h1 I=>?_
 simp[bk]
theorem Pv{s:aa}{K:List U}:Go.Sort.SWO (α:=Fin K.length) (Go.Proofs.ltOf fun a b=>py s (K.getD a.1 U.zero) (K.getD b.1 U.zero)):=by
 refine⟨fun x=>?_,fun x y z h1 I=>?_,fun x y z h1 I=>?_⟩
 ·simp only[Go.Proofs.ltOf,decide_eq_false_iff_not,vq];exact rL
 ·simp only[Go.Proofs.ltOf,decide_eq_true_eq,vq] at *;exact lt_trans h1 I
 ·simp only[Go.Proofs.ltOf,decide_eq_false_iff_not,vq] at *
  intro h;by_cases h3:s.lt (K.getD y.1 U.zero) (K.getD x.1 U.zero)
  ·exact I (lt_trans h3 h)
  ·rw[lt_eq h1 h3] at h
   exact I h
def NF(s:aa)(K:List U)(rc:D)(gs:List D):Prop:=gs=[]/\∃O,rc=.o (ints O)/\O.Perm (bk K.length)/\O.Pairwise fun a b=>¬s.lt (K.getD b.toNat U.zero) (K.getD a.toNat U.zero)
def Ci:List Nat:=[0,1,4,2,3,5]
def Kj:Sl:=ah Tryz.types Tryz.f166 Ci [(0,231)]
theorem TY:aE Tryz.prog Tryz.f166 Ci Kj 2=true:=by decide +kernel
theorem Yf{s:aa}(hs:iM s){K:List U}(Z:∀p∈K,s.sp p)(W:K.length<=400)(X Y:D):bn Tryz.prog 166 [.ptr s.cells,.ptr [X,Y,ae U.d U.zero K]] [] (NF s K):=by
 have I:bn Tryz.prog 231 [.sub 0 [],.fn 232 [.ptr [.ptr [X,Y,ae U.d U.zero K]],.ptr [.ptr s.cells]]] [.o (ints (bk K.length))] fun rc gs=>rc=.av []/\∃l':List (Fin K.length),gs=[.o (ints (l'.map fun i=>(i.1:Int)))]/\l'.Perm (List.finRange K.length)/\l'.Pairwise fun a b=>¬py s (K.getD b.1 U.zero) (K.getD a.1 U.zero)<0:=by
  have:=YH Tryz.aar aau (Go.Proofs.enters_of Tryz.func232 (by kernel_rfl) rfl) (caps:=[.ptr [.ptr [X,Y,ae U.d U.zero K]],.ptr [.ptr s.cells]]) (fun c V=>by
   simp only[List.mem_cons,List.not_mem_nil,or_false] at V
   rcases V with rfl | rfl<;>trivial) (n:=K.length) (by omega) (fun a b=>py s (K.getD a U.zero) (K.getD b U.zero)) Pv (fun a b ha hb=>@YB ⟨true⟩ s hs X Y K Z a b ha hb) (List.finRange K.length) (by simp;omega)
  rw[Gi] at this;exact this
 refine dB .tree Tryz.func166 TY ?_;unfold Kj ah Ci;simp only[go_sem];refine aj (Jx K.length (by omega)) rfl (.inl (bJ _)) ?_;simp only[go_sem];refine bj [5] false I ?_;rintro _ _ ⟨rfl,l,rfl,hp,S⟩;refine⟨(by repeat(first | exact trivial | refine⟨(fun h=>by cases h),?_⟩)),(fun h=>by cases h),?_⟩;simp only[go_sem];refine⟨_,[],⟨rfl,l.map fun i=>(i.1:Int),rfl,?_,?_⟩,rfl,rfl,trivial⟩
 ·have:=hp.map fun i=>(i.1:Int)
  rwa [Gi] at this
 ·rw[List.pairwise_map]
  refine S.imp fun {a b} h=>?_
  simp only[Int.toNat_natCast];exact fun W=>h (vq.2 W)
end Go.D3
