/- CONTRACTS: the class of a path; the classes in order: the program's side. -/
import Derived.Test.YtpnchponfnbmiaaGreatDoorGAB
import Derived.Test.YtpnchponfnbmiaaGreatDoorGAC
import Derived.Test.YtpnchponfnbmiaaGreatDoorGAD
namespace Go.D3
open Go Proofs
set_option maxHeartbeats 4000000
set_option maxRecDepth 100000
abbrev tq(list:List U)(cl:List Int)(K:List U):D:=.ptr [lU list,ints cl,ae U.d U.zero K]
def CE:List Nat:=[0,1,2,6]
def K3:Sl:=ah Tryz.types Tryz.f143 CE []
theorem Uv:aC Tryz.prog Tryz.f143 CE K3 3=true:=by decide +kernel
theorem wH{s:aa}(hs:di s){list K:List U}{cl:List Int}(R:kU s list cl K){i:Nat}(hi:i<list.length)(x:Int)(ed:List Int)(hq:list.getD i U.zero=⟨x,ed⟩) :
  aw Tryz.prog 143 [.v (tq list cl K),.v (.int .i64 x),.v (ints ed)] (.int .i64 (cl.getD i 0)):=by
 have hv:∀p∈list,s.sp p:=R.sh.a.v;have hsp:s.sp ⟨x,ed⟩:=hq▸hv _ (dv hi);have h6:ed.length<=6:=by obtain⟨z,hz⟩:=hsp;exact(bP.1 hz).2.1
 have hcl:=R.c.len;refine aK Tryz.func143 Uv ?_;unfold K3 ah CE;simp only[go_sem];refine an (AP x ed (tY hs hsp) (by omega)) rfl (.inl rfl) ?_;simp only[go_sem];obtain⟨j,hj,e1,e2⟩:=Ez hs hv R.sh.nd (p:=⟨x,ed⟩) (hq▸dv hi);obtain rfl:j=i:=getD_inj R.sh.nd hj hi (e1.trans hq.symm);rw[e2];exact⟨⟨by omega,by omega⟩,rfl⟩
def B1:List Nat:=[0,1,2,3,6,7,8,9,11,13]
def Ko:Sl:=ah Tryz.types Tryz.f183 B1 []
theorem TR:aC Tryz.prog Tryz.f183 B1 Ko 4=true:=by decide +kernel
theorem Yv[Mode]{s:aa}(hs:di s)(X Y:D){K:List U}(hK:∀p∈K,s.sp p)(a b:Nat)(ha:a<K.length)(hb:b<K.length) :
  aw Tryz.prog 183 [.v (.int .i64 a),.v (.int .i64 b),.v (.ptr [.ptr [X,Y,ae U.d U.zero K]]),.v (.ptr [.ptr s.cells])] (.int .i64 (oX s (K.getD a U.zero) (K.getD b U.zero))):=by
 obtain⟨u,hu⟩:=hK _ (dv (d:=U.zero) ha);obtain⟨v,hv⟩:=hK _ (dv (d:=U.zero) hb);have hto:=hs.to;have h0:=hs.n0;refine aK Tryz.func183 TR ?_;unfold Ko ah B1;simp only[go_sem];have e1:=pW s (K.getD a U.zero) hto h0;have e2:=pW s (K.getD b U.zero) hto h0;rw[hu] at e1;rw[hv] at e2;simp only[lp] at e1 e2;have hl1:=(bP.1 hu).2.1;have hl2:=(bP.1 hv).2.1;refine⟨ha,hb,an e1 rfl (.inl rfl) ?_⟩;simp only[go_sem];refine an e2 rfl (.inl rfl) ?_;simp only[go_sem];refine an (AM [(K.getD a U.zero).st,u] [(K.getD b U.zero).st,v] (Nat.le_of_ble_eq_true rfl) (Nat.le_of_ble_eq_true rfl)) rfl (.inl rfl) ?_;simp only[go_sem];unfold oX aa.en;rw[hu,hv,Option.getD_some,Option.getD_some];refine⟨fun h=>?_,fun h=>?_⟩
 ·rw[bne_iff_ne] at h
  rw[if_pos h]
 ·rw[bne_eq_false_iff_eq] at h
  rw[if_neg (by rw[Decidable.not_not];exact h)];refine an (JC (K.getD a U.zero) (K.getD b U.zero) (by omega) (by omega)) rfl (.inl rfl) ?_;simp only[go_sem]
theorem aan:eQ Tryz.prog 182=true:=by
 simp only[eQ,Tryz.func182];rfl
theorem F8{n:Nat}:((List.finRange n).map fun i=>(i.1:Int))=bB n:=by
 refine List.ext_getElem (by simp[bB]) fun i h1 h2=>?_
 simp[bB]
theorem O2{s:aa}{K:List U}:Go.Sort.SWO (α:=Fin K.length) (Go.Proofs.ltOf fun a b=>oX s (K.getD a.1 U.zero) (K.getD b.1 U.zero)):=by
 refine⟨fun x=>?_,fun x y z h1 h2=>?_,fun x y z h1 h2=>?_⟩
 ·simp only[Go.Proofs.ltOf,decide_eq_false_iff_not,uV];exact ra
 ·simp only[Go.Proofs.ltOf,decide_eq_true_eq,uV] at *;exact lt_trans h1 h2
 ·simp only[Go.Proofs.ltOf,decide_eq_false_iff_not,uV] at *
  intro h;by_cases h3:s.lt (K.getD y.1 U.zero) (K.getD x.1 U.zero)
  ·exact h2 (lt_trans h3 h)
  ·rw[lt_eq h1 h3] at h
   exact h2 h
def Nh(s:aa)(K:List U)(rc:D)(gs:List D):Prop:=gs=[]/\∃O,rc=.o (ints O)/\O.Perm (bB K.length)/\O.Pairwise fun a b=>¬s.lt (K.getD b.toNat U.zero) (K.getD a.toNat U.zero)
def B0:List Nat:=[0,1,4,2,3,5]
def Kn:Sl:=ah Tryz.types Tryz.f141 B0 [(0,182)]
theorem TQ:aC Tryz.prog Tryz.f141 B0 Kn 2=true:=by decide +kernel
theorem XJ{s:aa}(hs:di s){K:List U}(hK:∀p∈K,s.sp p)(hl:K.length<=400)(X Y:D):bK Tryz.prog 141 [.ptr s.cells,.ptr [X,Y,ae U.d U.zero K]] [] (Nh s K):=by
 have hsort:bK Tryz.prog 182 [.sub 0 [],.fn 183 [.ptr [.ptr [X,Y,ae U.d U.zero K]],.ptr [.ptr s.cells]]] [.o (ints (bB K.length))] fun rc gs=>rc=.al []/\∃l':List (Fin K.length),gs=[.o (ints (l'.map fun i=>(i.1:Int)))]/\l'.Perm (List.finRange K.length)/\l'.Pairwise fun a b=>¬oX s (K.getD b.1 U.zero) (K.getD a.1 U.zero)<0:=by
  have:=YC Tryz.aak aan (Go.Proofs.enters_of Tryz.func183 (by kernel_rfl) rfl) (caps:=[.ptr [.ptr [X,Y,ae U.d U.zero K]],.ptr [.ptr s.cells]]) (fun c hc=>by
   simp only[List.mem_cons,List.not_mem_nil,or_false] at hc
   rcases hc with rfl | rfl<;>trivial) (n:=K.length) (by omega) (fun a b=>oX s (K.getD a U.zero) (K.getD b U.zero)) O2 (fun a b ha hb=>@Yv ⟨true⟩ s hs X Y K hK a b ha hb) (List.finRange K.length) (by simp;omega)
  rw[F8] at this;exact this
 refine jc .tree Tryz.func141 TQ ?_;unfold Kn ah B0;simp only[go_sem];refine an (JD K.length (by omega)) rfl (.inl (bT _)) ?_;simp only[go_sem];refine gP [5] false hsort ?_;rintro _ _ ⟨rfl,l,rfl,hp,hs'⟩;refine⟨(by repeat(first | exact trivial | refine⟨(fun h=>by cases h),?_⟩)),(fun h=>by cases h),?_⟩;simp only[go_sem];refine⟨_,[],⟨rfl,l.map fun i=>(i.1:Int),rfl,?_,?_⟩,rfl,rfl,trivial⟩
 ·have:=hp.map fun i=>(i.1:Int)
  rwa [F8] at this
 ·rw[List.pairwise_map]
  refine hs'.imp fun {a b} h=>?_
  simp only[Int.toNat_natCast];exact fun hl=>h (uV.2 hl)
end Go.D3
