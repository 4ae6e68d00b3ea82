/- CONTRACTS: categories that are built of others, the reference's side: joins. -/
import Derived.Test.YtaknpcdnmecblaaGreatDoorGAX
namespace Go.D3
open Go Proofs
set_option maxHeartbeats 4000000
set_option maxRecDepth 100000
def DE:List Nat:=[0,2,3]
def LK:Sl:=ah Tryz.types Tryz.f214 DE []
theorem Vk:aE Tryz.prog Tryz.f214 DE LK 1=true:=by decide +kernel
theorem Bd(T:List (List Int))(S:T.length<=1048576)(I:da List.length T<=1048576):aA Tryz.prog 214 [.v (aC T)] (om T).d:=by
 refine aQ Tryz.func214 Vk ?_;unfold LK ah DE;simp only[go_sem];refine⟨⟨Nat.le_refl _,by omega⟩,⟨Nat.le_refl _,by omega⟩,aj (JC T I) rfl (.inl (ow _)) ?_⟩;simp only[go_sem];rfl
end Go.D3
namespace Go.D3
open Go Proofs
set_option maxHeartbeats 4000000
set_option maxRecDepth 100000
def GW(c d:af)(f:Nat):List Int:=(List.range (bt c d).length).map (mR c d f)
def DD:List Nat:=[0,1,4,2,3,5,6,7,8,9,10,11,12,13]
def LJ:Sl:=ah Tryz.types Tryz.f218 DD []
theorem Vj:aE Tryz.prog Tryz.f218 DD LJ 2=true:=by decide +kernel
theorem JH(c d:af)(Z:c.Wf)(hd:d.Wf)(h1:c.fr.length<=600)(I:d.fr.length<=600)(Y:c.ob<=100)(S:d.ob<=100):aA Tryz.prog 218 [.v c.d,.v d.d] (tz c d).d:=by
 have ad:=Z.cZ;have W:=hd.cZ;refine aQ Tryz.func218 Vj ?_;unfold LJ ah DD;simp only[go_sem];refine aj (JI c d Z hd h1 I (by omega) (by omega)) rfl (.inl (dA _)) ?_;simp only[go_sem];have hs:=BO Z hd;have a8:(aS c d).ob=c.ob+d.ob:=rfl;have ab:(aS c d).fr.length=c.fr.length+d.fr.length:=by simp[aS]
 have bg:=hs.bQ;have a7:=hs.cP;have a6:=hs.eu;obtain⟨n,hn⟩:∃n:Nat,d.ob=n:=⟨d.ob.toNat,by omega⟩;obtain⟨k,hk⟩:∃k:Nat,c.ob=k:=⟨c.ob.toNat,by omega⟩;refine au [8] (fun x:Nat=>[(7,.int .i64 x),(5,gj (aS c d).ob (bM (aS c d).fr (fun i=>((i / n:Nat):Int)) (n*x)) (bM (aS c d).to (fun i=>c.ob+((i % n:Nat):Int)) (n*x)) (aS c d).an (aS c d).co)]) (fun x=>x<=k) (fun x=>k-x) 0 (by simp only[go_sem];rfl) (Nat.zero_le _) rfl ?_;intro x hx;have ao:n*x<=n*k:=Nat.mul_le_mul_left n hx;have ag:n*k<=10000:=Nat.le_trans (Nat.mul_le_mul (show n<=100 by omega) (show k<=100 by omega)) (by decide);simp only[go_sem];refine⟨fun h=>?_,fun h=>?_⟩
 ·refine au [] (fun y:Nat=>[(8,.int .i64 y),(5,gj (aS c d).ob (bM (aS c d).fr (fun i=>((i / n:Nat):Int)) (n*x+y)) (bM (aS c d).to (fun i=>c.ob+((i % n:Nat):Int)) (n*x+y)) (aS c d).an (aS c d).co)]) (fun y=>y<=n) (fun y=>n-y) 0 (by simp only[go_sem];rfl) (Nat.zero_le _) rfl ?_
  intro y hy;have l1:=@iN _ (aS c d).fr (fun i=>((i / n:Nat):Int)) (n*x+y);have l2:=@iN _ (aS c d).to (fun i=>c.ob+((i % n:Nat):Int)) (n*x+y);simp only[go_sem];refine⟨fun I=>?_,fun I=>?_⟩
  ·have q1:(n*x+y) / n=x:=by rw[Nat.mul_add_div (by omega),Nat.div_eq_of_lt (by omega),Nat.add_zero]
   have q2:(n*x+y) % n=y:=by rw[Nat.mul_add_mod,Nat.mod_eq_of_lt (by omega)]
   refine⟨by omega,by omega,y+1,by omega,by omega,?_⟩;rw[aw (show y<n by omega) (by simp only[maxLen];omega),wrap_small (by omega) (by omega)];show _=_;rw[show n*x+(y+1)=n*x+y+1 from rfl,bM,bM,q1,q2]
  obtain rfl:y=n:=by omega
  refine⟨x+1,by omega,by omega,?_⟩;rw[aw (show x<k by omega) (by simp only[maxLen];omega)];rfl
 obtain rfl:x=k:=by omega
 have eF:bM (aS c d).fr (fun i=>((i / n:Nat):Int)) (n*x)=bt c d:=by rw[im];unfold bt;rw[hn,hk,Int.toNat_natCast,Int.toNat_natCast,Nat.mul_comm]
 have eT:bM (aS c d).to (fun i=>c.ob+((i % n:Nat):Int)) (n*x)=dH c d:=by rw[im];unfold dH;rw[hn,hk,Int.toNat_natCast,Int.toNat_natCast,Nat.mul_comm]
 rw[eF,eT];have hw:=GZ Z hd;have lF:(bt c d).length=c.fr.length+d.fr.length+n*x:=by rw[<-eF,iN,ab]
 have lT:(dH c d).length=(bt c d).length:=hw.bQ;have bF:∀f,f<(bt c d).length->0<=(bt c d).getD f 0/\(bt c d).getD f 0<c.ob+d.ob:=hw.gp;have bT:∀f,f<(bt c d).length->0<=(dH c d).getD f 0/\(dH c d).getD f 0<c.ob+d.ob:=hw.gE;refine au [11,12,13] (fun f:Nat=>[(10,.int .i64 f),(9,.o (aC ((List.range f).map (GW c d))))]) (fun f=>f<=(bt c d).length) (fun f=>(bt c d).length-f) 0 (by simp only[go_sem];rfl) (Nat.zero_le _) rfl ?_;intro f hf;have lf:((List.range f).map (GW c d)).length=f:=by simp
 simp only[go_sem];refine⟨fun h=>?_,fun h=>?_⟩
 ·refine au [13] (fun g:Nat=>[(12,.int .i64 g),(11,.o (ints ((List.range g).map (mR c d f))))]) (fun g=>g<=(bt c d).length) (fun g=>(bt c d).length-g) 0 (by simp only[go_sem];rfl) (Nat.zero_le _) rfl ?_
  intro g hg;have lg:((List.range g).map (mR c d f)).length=g:=by simp
  simp only[go_sem];refine⟨fun I=>?_,fun I=>?_⟩
  ·have b1:=bF f h
   have b2:=bT g I;have ax : 0<=(bt c d).getD f 0*d.ob:=Int.mul_nonneg b1.1 W;have a1:(bt c d).getD f 0*d.ob<=200*100:=Int.mul_le_mul (by omega) S W (by omega);have hJ:mR c d f g=if(dH c d).getD f 0≠(bt c d).getD g 0 then -1 else if f<(aS c d).fr.length/\g<(aS c d).fr.length then(aS c d).cell f g else(aS c d).fr.length+(bt c d).getD f 0*d.ob+(dH c d).getD g 0-c.ob:=rfl
   have V:=aw I (show(bt c d).length<=maxLen by simp only[maxLen];omega);refine⟨by omega,I,fun Y=>⟨by omega,g+1,by omega,by omega,?_⟩,fun Y=>⟨fun S=>?_,fun S=>?_⟩⟩
   ·rw[V,gw,hJ,if_pos (by simpa using Y)]
   ·simp only[Bool.and_eq_true,decide_eq_true_eq] at S
    have hr:=hs.row f S.1;refine⟨by omega,by omega,by omega,g+1,by omega,by omega,?_⟩;rw[V,gw,hJ,if_neg (by simpa using Y),if_pos S];rfl
   ·simp only[Bool.and_eq_false_iff,decide_eq_false_iff_not] at S
    refine⟨h,by omega,by omega,g+1,by omega,by omega,?_⟩;rw[V,gw,hJ,if_neg (by simpa using Y),if_neg (by omega)];rw[wrap_small (n:=(bt c d).getD f 0*d.ob) (by omega) (by omega),wrap_small (n:=((aS c d).fr.length:Int)+(bt c d).getD f 0*d.ob) (by omega) (by omega),wrap_small (n:=((aS c d).fr.length:Int)+(bt c d).getD f 0*d.ob+(dH c d).getD g 0) (by omega) (by omega),wrap_small (by omega) (by omega)]
  obtain rfl:g=(bt c d).length:=by omega
  refine⟨by omega,f+1,by omega,by omega,?_⟩;rw[aw (show f<(bt c d).length by omega) (by simp only[maxLen];omega),gw];rfl
 obtain rfl:f=(bt c d).length:=by omega
 rfl
end Go.D3
