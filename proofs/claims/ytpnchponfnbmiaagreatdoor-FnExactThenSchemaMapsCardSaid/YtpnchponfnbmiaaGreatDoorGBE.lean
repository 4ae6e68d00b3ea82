/- CONTRACTS: the class of a path; the classes in order: the program's side. -/
import Derived.Test.YtpnchponfnbmiaaGreatDoorGBB
import Derived.Test.YtpnchponfnbmiaaGreatDoorGBC
import Derived.Test.YtpnchponfnbmiaaGreatDoorGBD
namespace Go.D3
open Go
set_option maxHeartbeats 4000000
set_option maxRecDepth 100000
abbrev rJ(list:List Pth)(cl:List Int)(K:List Pth):D:=.ptr [kz list,ints cl,U Pth.d Pth.zero K]
def AA:List Nat:=[0,1,2,6]
def H7:Sl:=ae Go.Proofs.Tryz.types Go.Proofs.Tryz.f143 AA []
theorem P3:aD Go.Proofs.Tryz.prog Go.Proofs.Tryz.f143 AA H7 3=true:=by decide +kernel
theorem uG{s:Sch}(hs:gD s){list K:List Pth}{cl:List Int}(R:jM s list cl K){i:Nat}(hi:i<list.length)(x:Int)(ed:List Int)(hq:list.getD i Pth.zero=⟨x,ed⟩) :
  al Go.Proofs.Tryz.prog 143 [.v (rJ list cl K),.v (.int .i64 x),.v (ints ed)] (.int .i64 (cl.getD i 0)):=by
 have hv:∀p∈list,s.sp p:=R.sh.a.v;have hsp:s.sp ⟨x,ed⟩:=hq▸hv _ (cH hi);have h6:ed.length<=6:=by obtain⟨z,hz⟩:=hsp;exact(bx.1 hz).2.1
 have hcl:=R.c.len;refine aC Go.Proofs.Tryz.func143 P3 ?_;unfold H7 ae AA;simp only[go_sem];refine af (yO x ed (rY hs hsp) (by omega)) rfl (.inl rfl) ?_;simp only[go_sem];obtain⟨j,hj,e1,e2⟩:=Cl hs hv R.sh.nd (p:=⟨x,ed⟩) (hq▸cH hi);obtain rfl:j=i:=getD_inj R.sh.nd hj hi (e1.trans hq.symm);rw[e2];exact⟨⟨by omega,by omega⟩,rfl⟩
def Ab:List Nat:=[0,1,2,3,6,7,8,9,11,13]
def HH:Sl:=ae Go.Proofs.Tryz.types Go.Proofs.Tryz.f183 Ab []
theorem PB:aD Go.Proofs.Tryz.prog Go.Proofs.Tryz.f183 Ab HH 4=true:=by decide +kernel
theorem Tw[Mode]{s:Sch}(hs:gD s)(X Y:D){K:List Pth}(hK:∀p∈K,s.sp p)(a b:Nat)(ha:a<K.length)(hb:b<K.length) :
  al Go.Proofs.Tryz.prog 183 [.v (.int .i64 a),.v (.int .i64 b),.v (.ptr [.ptr [X,Y,U Pth.d Pth.zero K]]),.v (.ptr [.ptr s.cells])] (.int .i64 (nz s (K.getD a Pth.zero) (K.getD b Pth.zero))):=by
 obtain⟨u,hu⟩:=hK _ (cH (d:=Pth.zero) ha);obtain⟨v,hv⟩:=hK _ (cH (d:=Pth.zero) hb);have hto:=hs.to;have h0:=hs.n0;refine aC Go.Proofs.Tryz.func183 PB ?_;unfold HH ae Ab;simp only[go_sem];have e1:=mJ s (K.getD a Pth.zero) hto h0;have e2:=mJ s (K.getD b Pth.zero) hto h0;rw[hu] at e1;rw[hv] at e2;simp only[ic] at e1 e2;have hl1:=(bx.1 hu).2.1;have hl2:=(bx.1 hv).2.1;refine⟨ha,hb,af e1 rfl (.inl rfl) ?_⟩;simp only[go_sem];refine af e2 rfl (.inl rfl) ?_;simp only[go_sem];refine af (yL [(K.getD a Pth.zero).st,u] [(K.getD b Pth.zero).st,v] (Nat.le_of_ble_eq_true rfl) (Nat.le_of_ble_eq_true rfl)) rfl (.inl rfl) ?_;simp only[go_sem];unfold nz Sch.en;rw[hu,hv,Option.getD_some,Option.getD_some];refine⟨fun h=>?_,fun h=>?_⟩
 ·rw[bne_iff_ne] at h
  rw[if_pos h]
 ·rw[bne_eq_false_iff_eq] at h
  rw[if_neg (by rw[Decidable.not_not];exact h)];refine af (GM (K.getD a Pth.zero) (K.getD b Pth.zero) (by omega) (by omega)) rfl (.inl rfl) ?_;simp only[go_sem]
theorem U9:eu Go.Proofs.Tryz.prog 182=true:=by
 simp only[eu,Go.Proofs.Tryz.func182];rfl
theorem DA{n:Nat}:((List.finRange n).map fun i=>(i.1:Int))=bw n:=by
 refine List.ext_getElem (by simp[bw]) fun i h1 h2=>?_
 simp[bw]
theorem LM{s:Sch}{K:List Pth}:Go.Sort.SWO (α:=Fin K.length) (Go.Proofs.ltOf fun a b=>nz s (K.getD a.1 Pth.zero) (K.getD b.1 Pth.zero)):=by
 refine⟨fun x=>?_,fun x y z h1 h2=>?_,fun x y z h1 h2=>?_⟩
 ·simp only[Go.Proofs.ltOf,decide_eq_false_iff_not,sQ];exact pC
 ·simp only[Go.Proofs.ltOf,decide_eq_true_eq,sQ] at *;exact lt_trans h1 h2
 ·simp only[Go.Proofs.ltOf,decide_eq_false_iff_not,sQ] at *
  intro h;by_cases h3:s.lt (K.getD y.1 Pth.zero) (K.getD x.1 Pth.zero)
  ·exact h2 (lt_trans h3 h)
  ·rw[lt_eq h1 h3] at h
   exact h2 h
def Ke(s:Sch)(K:List Pth)(rc:D)(gs:List D):Prop:=gs=[]/\∃O,rc=.o (ints O)/\O.Perm (bw K.length)/\O.Pairwise fun a b=>¬s.lt (K.getD b.toNat Pth.zero) (K.getD a.toNat Pth.zero)
def Aa:List Nat:=[0,1,4,2,3,5]
def HG:Sl:=ae Go.Proofs.Tryz.types Go.Proofs.Tryz.f141 Aa [(0,182)]
theorem PA:aD Go.Proofs.Tryz.prog Go.Proofs.Tryz.f141 Aa HG 2=true:=by decide +kernel
theorem Tb{s:Sch}(hs:gD s){K:List Pth}(hK:∀p∈K,s.sp p)(hl:K.length<=400)(X Y:D):bY Go.Proofs.Tryz.prog 141 [.ptr s.cells,.ptr [X,Y,U Pth.d Pth.zero K]] [] (Ke s K):=by
 have hsort:bY Go.Proofs.Tryz.prog 182 [.sub 0 [],.fn 183 [.ptr [.ptr [X,Y,U Pth.d Pth.zero K]],.ptr [.ptr s.cells]]] [.o (ints (bw K.length))] fun rc gs=>rc=.ah []/\∃l':List (Fin K.length),gs=[.o (ints (l'.map fun i=>(i.1:Int)))]/\l'.Perm (List.finRange K.length)/\l'.Pairwise fun a b=>¬nz s (K.getD b.1 Pth.zero) (K.getD a.1 Pth.zero)<0:=by
  have:=TD Go.Proofs.Tryz.U6 U9 (Go.Proofs.enters_of Go.Proofs.Tryz.func183 (by kernel_rfl) rfl) (caps:=[.ptr [.ptr [X,Y,U Pth.d Pth.zero K]],.ptr [.ptr s.cells]]) (fun c hc=>by
   simp only[List.mem_cons,List.not_mem_nil,or_false] at hc
   rcases hc with rfl | rfl<;>trivial) (n:=K.length) (by omega) (fun a b=>nz s (K.getD a Pth.zero) (K.getD b Pth.zero)) LM (fun a b ha hb=>@Tw ⟨true⟩ s hs X Y K hK a b ha hb) (List.finRange K.length) (by simp;omega)
  rw[DA] at this;exact this
 refine oi .tree Go.Proofs.Tryz.func141 PA ?_;unfold HG ae Aa;simp only[go_sem];refine af (GO K.length (by omega)) rfl (.inl (bJ _)) ?_;simp only[go_sem];refine nC [5] false hsort ?_;rintro _ _ ⟨rfl,l,rfl,hp,hs'⟩;refine⟨(by repeat(first | exact trivial | refine⟨(fun h=>by cases h),?_⟩)),(fun h=>by cases h),?_⟩;simp only[go_sem];refine⟨_,[],⟨rfl,l.map fun i=>(i.1:Int),rfl,?_,?_⟩,rfl,rfl,trivial⟩
 ·have:=hp.map fun i=>(i.1:Int)
  rwa [DA] at this
 ·rw[List.pairwise_map]
  refine hs'.imp fun {a b} h=>?_
  simp only[Int.toNat_natCast];exact fun hl=>h (sQ.2 hl)
end Go.D3
