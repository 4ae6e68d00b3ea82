/- CONTRACTS: categories that are built of others, the reference's side: products. -/
import Derived.Test.YtaknpcdnmecblaaGreatDoorGAX
namespace Go.D3
open Go Proofs
set_option maxHeartbeats 4000000
set_option maxRecDepth 100000
def pI(c d:af)(i:Nat):Int:=c.an.getD (i / d.an.length) 0*d.fr.length+d.an.getD (i % d.an.length) 0
def pF(c d:af)(i:Nat):Int:=c.fr.getD (i / d.fr.length) 0*d.ob+d.fr.getD (i % d.fr.length) 0
def pT(c d:af)(i:Nat):Int:=c.to.getD (i / d.fr.length) 0*d.ob+d.to.getD (i % d.fr.length) 0
def pC(c d:af)(i j:Nat):Int:=if 0<=c.cell (i / d.fr.length) (j / d.fr.length)/\0<=d.cell (i % d.fr.length) (j % d.fr.length) then c.cell (i / d.fr.length) (j / d.fr.length)*d.fr.length+d.cell (i % d.fr.length) (j % d.fr.length) else -1
def pW(c d:af)(i:Nat):List Int:=(List.range (c.fr.length*d.fr.length)).map (pC c d i)
theorem zz{m a b:Nat}(h:b<m):(m*a+b) / m=a/\(m*a+b) % m=b:=⟨by rw[Nat.mul_add_div (by omega),Nat.div_eq_of_lt (by omega),Nat.add_zero],by rw[Nat.mul_add_mod,Nat.mod_eq_of_lt (by omega)]⟩
def DI:List Nat:=[0,1,4,2,3,5,6,7,8,9,10,11,12,13,14,15]
def LP:Sl:=ah Tryz.types Tryz.f153 DI []
theorem Vo:aE Tryz.prog Tryz.f153 DI LP 2=true:=by decide +kernel
theorem YY(c d:af)(Y:c.Wf)(Z:d.Wf)(h1:c.fr.length<=600)(h2:d.fr.length<=600)(h3:c.ob<=100)(h4:d.ob<=100):aA Tryz.prog 153 [.v c.d,.v d.d] (gX c d).d:=by
 have ao:=Y.cZ;have V:=Z.cZ;have b1:=Y.bQ;have b4:=Z.bQ;have bT:=Y.eu;have b2:=Z.eu;have b0:=Y.cP;have b3:=Z.cP;obtain⟨n,hn⟩:∃n:Nat,d.ob=n:=⟨d.ob.toNat,by omega⟩;obtain⟨k,hk⟩:∃k:Nat,c.ob=k:=⟨c.ob.toNat,by omega⟩;have cc : 0<=c.ob*d.ob:=Int.mul_nonneg ao V;have a8:c.ob*d.ob<=100*100:=Int.mul_le_mul h3 h4 V (by omega);refine aQ Tryz.func153 Vo ?_;unfold LP ah DI;simp only[go_sem];rw[wrap_small (by omega) (by omega)];have b5:d.an.length*c.an.length<=10000:=Nat.le_trans (Nat.mul_le_mul (show d.an.length<=100 by omega) (show c.an.length<=100 by omega)) (by decide);have b9:d.fr.length*c.fr.length<=360000:=Nat.le_trans (Nat.mul_le_mul h2 h1) (by decide);refine au [9] (fun x:Nat=>[(8,.int .i64 x),(7,gj (c.ob*d.ob) [] [] (bM [] (pI c d) (d.an.length*x)) [])]) (fun x=>x<=c.an.length) (fun x=>c.an.length-x) 0 (by simp only[go_sem];rfl) (Nat.zero_le _) rfl ?_;intro x hx;have cj:d.an.length*x<=d.an.length*c.an.length:=Nat.mul_le_mul_left _ hx;simp only[go_sem];refine⟨fun h=>?_,fun h=>?_⟩
 ·refine au [] (fun y:Nat=>[(9,.int .i64 y),(7,gj (c.ob*d.ob) [] [] (bM [] (pI c d) (d.an.length*x+y)) [])]) (fun y=>y<=d.an.length) (fun y=>d.an.length-y) 0 (by simp only[go_sem];rfl) (Nat.zero_le _) rfl ?_
  intro y hy;have l1:=@iN _ [] (pI c d) (d.an.length*x+y);simp only[List.length_nil,Nat.zero_add] at l1;simp only[go_sem];refine⟨fun S=>?_,fun S=>?_⟩
  ·obtain⟨q1,q2⟩:=zz (m:=d.an.length) (a:=x) (b:=y) (by omega)
   obtain⟨u,u1,u2,_⟩:=Y.jT x (by omega);obtain⟨v,v1,v2,_⟩:=Z.jT y (by omega);have hp:(u:Int)*(d.fr.length:Int)<=600*600:=Int.mul_le_mul (by omega) (by omega) (by omega) (by omega);have cm : 0<=(u:Int)*(d.fr.length:Int):=Int.mul_nonneg (by omega) (by omega);refine⟨by omega,by omega,by omega,y+1,by omega,by omega,?_⟩;rw[aw (show y<d.an.length by omega) (by simp only[maxLen];omega),u1,v1,wrap_small (n:=(u:Int)*(d.fr.length:Int)) (by omega) (by omega),wrap_small (by omega) (by omega)];show _=_;rw[show d.an.length*x+(y+1)=d.an.length*x+y+1 from rfl,bM,pI,q1,q2,u1,v1]
  obtain rfl:y=d.an.length:=by omega
  refine⟨x+1,by omega,by omega,?_⟩;rw[aw (show x<c.an.length by omega) (by simp only[maxLen];omega)];rfl
 obtain rfl:x=c.an.length:=by omega
 generalize hI:bM [] (pI c d) (d.an.length*c.an.length)=I;refine au [11,12,13,14,15] (fun a:Nat=>[(10,.int .i64 a),(7,gj (c.ob*d.ob) (bM [] (pF c d) (d.fr.length*a)) (bM [] (pT c d) (d.fr.length*a)) I (bM [] (pW c d) (d.fr.length*a)))]) (fun a=>a<=c.fr.length) (fun a=>c.fr.length-a) 0 (by simp only[go_sem];rfl) (Nat.zero_le _) rfl ?_;intro a ha;have cd:d.fr.length*a<=d.fr.length*c.fr.length:=Nat.mul_le_mul_left _ ha;simp only[go_sem];refine⟨fun h=>?_,fun h=>?_⟩
 ·have bg:d.fr.length*a+d.fr.length<=d.fr.length*c.fr.length:=Nat.mul_le_mul_left d.fr.length (show a+1<=c.fr.length by omega)
  refine au [12,13,14,15] (fun b:Nat=>[(11,.int .i64 b),(7,gj (c.ob*d.ob) (bM [] (pF c d) (d.fr.length*a+b)) (bM [] (pT c d) (d.fr.length*a+b)) I (bM [] (pW c d) (d.fr.length*a+b)))]) (fun b=>b<=d.fr.length) (fun b=>d.fr.length-b) 0 (by simp only[go_sem];rfl) (Nat.zero_le _) rfl ?_;intro b hb;have l1:=@iN _ [] (pF c d) (d.fr.length*a+b);have l2:=@iN _ [] (pT c d) (d.fr.length*a+b);have l3:=@iN _ [] (pW c d) (d.fr.length*a+b);simp only[List.length_nil,Nat.zero_add] at l1 l2 l3;simp only[go_sem];refine⟨fun S=>?_,fun S=>?_⟩
  ·obtain⟨q1,q2⟩:=zz (m:=d.fr.length) (a:=a) (b:=b) (by omega)
   have rc:=Y.gp a h;have rd:=Z.gp b S;have sc:=Y.gE a h;have sd:=Z.gE b S;have p1:c.fr.getD a 0*d.ob<=100*100:=Int.mul_le_mul (by omega) h4 V (by omega);have p2 : 0<=c.fr.getD a 0*d.ob:=Int.mul_nonneg rc.1 V;have p3:c.to.getD a 0*d.ob<=100*100:=Int.mul_le_mul (by omega) h4 V (by omega);have p4 : 0<=c.to.getD a 0*d.ob:=Int.mul_nonneg sc.1 V;refine⟨h,S,by omega,by omega,by omega,by omega,?_⟩;rw[wrap_small (n:=c.fr.getD a 0*d.ob) (by omega) (by omega),wrap_small (n:=c.to.getD a 0*d.ob) (by omega) (by omega),wrap_small (n:=c.fr.getD a 0*d.ob+d.fr.getD b 0) (by omega) (by omega),wrap_small (n:=c.to.getD a 0*d.ob+d.to.getD b 0) (by omega) (by omega)];refine au [14,15] (fun f:Nat=>[(13,.int .i64 f),(12,.o (ints (bM [] (pC c d (d.fr.length*a+b)) (d.fr.length*f))))]) (fun f=>f<=c.fr.length) (fun f=>c.fr.length-f) 0 (by simp only[go_sem];rfl) (Nat.zero_le _) rfl ?_;intro f hf;have cg:d.fr.length*f<=d.fr.length*c.fr.length:=Nat.mul_le_mul_left _ hf;simp only[go_sem];refine⟨fun ab=>?_,fun ab=>?_⟩
   ·refine au [15] (fun g:Nat=>[(14,.int .i64 g),(12,.o (ints (bM [] (pC c d (d.fr.length*a+b)) (d.fr.length*f+g))))]) (fun g=>g<=d.fr.length) (fun g=>d.fr.length-g) 0 (by simp only[go_sem];rfl) (Nat.zero_le _) rfl ?_
    intro g hg;have bF:d.fr.length*f+d.fr.length<=d.fr.length*c.fr.length:=Nat.mul_le_mul_left d.fr.length (show f+1<=c.fr.length by omega);have l4:=@iN _ [] (pC c d (d.fr.length*a+b)) (d.fr.length*f+g);simp only[List.length_nil,Nat.zero_add] at l4;simp only[go_sem];refine⟨fun W=>?_,fun W=>?_⟩
    ·obtain⟨q3,q4⟩:=zz (m:=d.fr.length) (a:=f) (b:=g) (by omega)
     have cp:=Y.row a h;have cq:=Z.row b S
     have ad:c.cell a f<=600:=by
      obtain⟨a1,a2⟩:=Y.kx a f h ab;by_cases e:c.to.getD a 0=c.fr.getD f 0
      ·obtain⟨k,k1,k2,_⟩:=a2 e
       omega
      ·rw[a1 e];decide
     have a7:d.cell b g<=600:=by
      obtain⟨a1,a2⟩:=Z.kx b g S W;by_cases e:d.to.getD b 0=d.fr.getD g 0
      ·obtain⟨k,k1,k2,_⟩:=a2 e
       omega
      ·rw[a1 e];decide
     have ax:(c.co.getD a []).getD f 0=c.cell a f:=rfl;have a6:(d.co.getD b []).getD g 0=d.cell b g:=rfl;rw[ax,a6];have hP:pC c d (d.fr.length*a+b) (d.fr.length*f+g)=if 0<=c.cell a f/\0<=d.cell b g then c.cell a f*d.fr.length+d.cell b g else -1:=by unfold pC;rw[q1,q2,q3,q4]
     refine⟨by omega,by omega,fun h=>⟨h,by omega⟩,fun h=>⟨h,by omega⟩,fun h5=>?_,fun h5=>?_⟩
     ·simp only[Bool.and_eq_true,decide_eq_true_eq] at h5
      have p5:c.cell a f*(d.fr.length:Int)<=600*600:=Int.mul_le_mul ad (by omega) (by omega) (by omega);have p6 : 0<=c.cell a f*(d.fr.length:Int):=Int.mul_nonneg h5.1 (by omega);refine⟨by omega,by omega,by omega,by omega,by omega,g+1,by omega,by omega,?_⟩;rw[aw W (by simp only[maxLen];omega),wrap_small (n:=c.cell a f*(d.fr.length:Int)) (by omega) (by omega),wrap_small (n:=c.cell a f*(d.fr.length:Int)+d.cell b g) (by omega) (by omega)];rw[show d.fr.length*f+(g+1)=d.fr.length*f+g+1 from rfl,bM,hP,if_pos h5]
     ·refine⟨by omega,g+1,by omega,by omega,?_⟩
      rw[aw W (by simp only[maxLen];omega)];rw[show d.fr.length*f+(g+1)=d.fr.length*f+g+1 from rfl,bM,hP,if_neg (fun hh=>by simp[hh.1,hh.2] at h5)]
    obtain rfl:g=d.fr.length:=by omega
    refine⟨f+1,by omega,by omega,?_⟩;rw[aw ab (by simp only[maxLen];omega)];rfl
   obtain rfl:f=c.fr.length:=by omega
   have ag:bM [] (pC c d (d.fr.length*a+b)) (d.fr.length*c.fr.length)=pW c d (d.fr.length*a+b):=by rw[im,Nat.mul_comm d.fr.length c.fr.length];rfl
   refine⟨by omega,b+1,by omega,by omega,?_⟩;rw[aw S (by simp only[maxLen];omega),ag];rw[show d.fr.length*a+(b+1)=d.fr.length*a+b+1 from rfl,bM,bM,bM,pF,pT,q1,q2]
  obtain rfl:b=d.fr.length:=by omega
  refine⟨a+1,by omega,by omega,?_⟩;rw[aw h (by simp only[maxLen];omega)];rfl
 obtain rfl:a=c.fr.length:=by omega
 have e1:bM [] (pF c d) (d.fr.length*c.fr.length)=(gX c d).fr:=by rw[im,Nat.mul_comm];rfl
 have e2:bM [] (pT c d) (d.fr.length*c.fr.length)=(gX c d).to:=by rw[im,Nat.mul_comm];rfl
 have e3:I=(gX c d).an:=by rw[<-hI,im,Nat.mul_comm];rfl
 have e4:bM [] (pW c d) (d.fr.length*c.fr.length)=(gX c d).co:=by rw[im,Nat.mul_comm];rfl
 rw[e1,e2,e3,e4];rfl
end Go.D3
