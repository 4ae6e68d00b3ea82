/- CONTRACTS: set functors whose elements are glued, the reference's side. -/
import Derived.Test.YtaknpcdnmecblaaGreatDoorGBN
namespace Go.D3
open Go Proofs
set_option maxHeartbeats 4000000
set_option maxRecDepth 100000
structure Ei(f:Sf)(pr:List (List (List Int))):Prop where
 len:pr.length=f.sz.length
 ok:∀x,x<f.sz.length->(pr.getD x []).length<=1048576/\∀k,k<(pr.getD x []).length->∃a b:Nat,(pr.getD x []).getD k []=[(a:Int),(b:Int)]/\(a:Int)<f.sz.getD x 0/\(b:Int)<f.sz.getD x 0
def DP:List Nat:=[0,1,4,2,5,6,7,8,9,10,11,12,13,14,15,16,17,18,19,20,21,22,23]
def LX:Sl:=ah Tryz.types Tryz.f162 DP []
theorem Vv:aE Tryz.prog Tryz.f162 DP LX 2=true:=by decide +kernel
theorem Y5(c:af)(hc:c.Shape)(f:Sf)(hf:qO 120 c f)(pr:List (List (List Int)))(hp:Ei f pr):bn Tryz.prog 162 [f.d,iS pr] [] (xP 120 c):=by
 have h8:=hc.ox;have h0:=hc.cZ;have ho:=hc.fr;have hz:=hc.to;have hh:=hc.an;have ft:=hf.nC;have e9:=hp.len;have eF:=hf.al
 have ax:∀{x},x<f.sz.length->∃n:Nat,f.sz.getD x 0=n/\n<=120:=fun I=>by
  have:=hf.sz _ I;exact⟨(f.sz.getD _ 0).toNat,(Int.toNat_of_nonneg this.1).symm,by omega⟩
 obtain⟨ay,sz,act⟩:=f;obtain rfl:ay=c:=hf.ay;simp only at ft e9 eF ax;refine dB .tree Tryz.func162 Vv ?_;unfold LX ah DP;simp only[go_sem];refine au [] (fun(p:Nat×List (List Int))=>[(4,.o (aC p.2)),(5,.int .i64 p.1)]) (fun p=>p.1<=sz.length/\p.2.length=p.1/\∀x,x<p.1->((p.2.getD x []).length:Int)=sz.getD x 0/\∀i,i<(p.2.getD x []).length->0<=(p.2.getD x []).getD i 0/\(p.2.getD x []).getD i 0<sz.getD x 0) (fun p=>sz.length-p.1) (0,[]) (by simp only[go_sem];rfl) ⟨Nat.zero_le _,rfl,fun x I=>absurd I (Nat.not_lt_zero _)⟩ rfl ?_;rintro⟨x,cl⟩ ⟨I,bT,bF⟩;simp only at I bT bF;simp only[go_sem];refine⟨fun h1=>?_,fun h1=>?_⟩
 ·obtain⟨n,hn,hq⟩:=ax h1
  obtain⟨fl,cq⟩:=hp.ok x h1;simp only at cq;rw[hn] at cq|-
  refine⟨h1,by omega,aj (A9 n (pr.getD x []) (by omega) fl fun k hk=>?_) rfl (.inl (bJ _)) ?_⟩
  ·obtain⟨a,b,e,ha,hb⟩:=cq k hk
   exact⟨a,b,e,by omega,by omega⟩
  obtain⟨j1,j2⟩:=GY (n:=n) (P:=pr.getD x []);generalize cT (bV (bk n) (pr.getD x []))=q at j1 j2;simp only[go_sem];refine⟨by omega,(x+1,cl++[q]),⟨h1,by rw[List.length_append,bT];rfl,fun x' a7=>?_⟩,by simp only;omega,by rw[aw h1 (by simp only[maxLen];omega)]⟩;rw[ee (by simp only at a7;omega)];split
  ·rename_i e
   rw[e,bT,hn,j1];exact⟨rfl,fun i hi=>j2 i hi⟩
  ·exact bF x' (by simp only at a7;omega)
 obtain rfl:x=sz.length:=by omega
 have ev:nH ⟨ay,sz,act⟩ cl:=⟨bT,fun x I=>(bF x I).1,fun x i I hi=>(bF x I).2 i hi⟩;refine au [7,8,9,10,11,12,13] (fun(p:Bool×List (List Int))=>[(4,.o (aC p.2)),(6,.bool p.1)]) (fun p=>nH ⟨ay,sz,act⟩ p.2) (fun p=>iV p.2+p.1.toNat) (true,cl) (by simp only[go_sem];rfl) ev rfl ?_;rintro⟨more,cl⟩ hI;simp only at hI;simp only[go_sem];refine⟨fun hm=>?_,fun hm=>?_⟩
 ·subst hm
  refine au [8,9,10,11,12,13] (fun(p:Nat×Bool×List (List Int))=>[(4,.o (aC p.2.2)),(6,.bool p.2.1),(7,.int .i64 p.1)]) (fun p=>p.1<=act.length/\nH ⟨ay,sz,act⟩ p.2.2/\iV p.2.2+p.2.1.toNat<=iV cl) (fun p=>act.length-p.1) (0,false,cl) (by simp only[go_sem];rfl) ⟨Nat.zero_le _,hI,Nat.le_refl _⟩ rfl ?_;rintro⟨a,mr,cm⟩ ⟨ha,b4,dm⟩;simp only at ha b4 dm;simp only[go_sem];refine⟨fun S=>?_,fun S=>⟨(mr,cm),b4,by simp only[Bool.toNat_true];omega,rfl⟩⟩;have hF:=hc.jO (f:=a) (by omega);have hT:=hc.lz (f:=a) (by omega);have b1:=hf.row a (by show a<ay.fr.length;omega);have V:=fun i=>hf.yM a i (by show a<ay.fr.length;omega)
  obtain⟨x,I⟩:∃x:Nat,ay.fr.getD a 0=x:=⟨(ay.fr.getD a 0).toNat,by omega⟩;obtain⟨y,hy⟩:∃y:Nat,ay.to.getD a 0=y:=⟨(ay.to.getD a 0).toNat,by omega⟩;simp only[I,hy,Int.toNat_natCast] at b1 V hF hT|-
  have Y:x<sz.length:=by omega
  have Z:y<sz.length:=by omega
  obtain⟨nx,ag,b2⟩:=ax Y;obtain⟨ny,b0,hj⟩:=ax Z;rw[ag] at b1;rw[b0] at V;have cv:=aw S (show act.length<=maxLen by simp only[maxLen];omega);refine⟨by omega,by omega,?_⟩;refine au [11,12,13] (fun(p:Nat×Bool×List (List Int))=>[(4,.o (aC p.2.2)),(6,.bool p.2.1),(10,.int .i64 p.1)]) (fun p=>p.1<=nx/\nH ⟨ay,sz,act⟩ p.2.2/\iV p.2.2+p.2.1.toNat<=iV cl) (fun p=>nx-p.1) (0,mr,cm) (by simp only[go_sem];rfl) ⟨Nat.zero_le _,b4,dm⟩ rfl ?_;rintro⟨d,md,cd⟩ ⟨hd,a1,cc⟩;simp only at hd a1 cc;have eP:=a1.len;have eT:=a1.row x Y;simp only[ag] at eT;simp only at eP;simp only[go_sem];refine⟨by omega,fun h3=>?_,fun h3=>⟨(a+1,md,cd),⟨S,a1,cc⟩,by simp only;omega,by rw[cv]⟩⟩;have gF:=aw (i:=d) (n:=nx) (by omega) (by simp only[maxLen];omega);refine au [12,13] (fun(p:Nat×Bool×List (List Int))=>[(4,.o (aC p.2.2)),(6,.bool p.2.1),(11,.int .i64 p.1)]) (fun p=>p.1<=d/\nH ⟨ay,sz,act⟩ p.2.2/\iV p.2.2+p.2.1.toNat<=iV cl) (fun p=>d-p.1) (0,md,cd) (by simp only[go_sem];rfl) ⟨Nat.zero_le _,a1,cc⟩ rfl ?_;rintro⟨e,me,ce⟩ ⟨he,ab,cg⟩;simp only at he ab cg;have e0:=ab.len;have hex:=ab.row x Y;have e6:=ab.row y Z;simp only[ag] at hex;simp only[b0] at e6;simp only at e0;simp only[go_sem];refine⟨fun h4=>?_,fun h4=>⟨(d+1,me,ce),⟨by simp only;omega,ab,cg⟩,by simp only;omega,by rw[gF]⟩⟩;have ej:=aw (i:=e) (n:=d) (by omega) (by simp only[maxLen];omega);have hu:=V d (by omega);have hv:=V e (by omega);obtain⟨u,gg⟩:∃u:Nat,(act.getD a []).getD d 0=u:=⟨((act.getD a []).getD d 0).toNat,by omega⟩;obtain⟨v,gn⟩:∃v:Nat,(act.getD a []).getD e 0=v:=⟨((act.getD a []).getD e 0).toNat,by omega⟩;simp only[gg,gn,Int.toNat_natCast] at hu hv|-
  refine⟨S,by omega,S,by omega,by omega,by omega,by omega,by omega,fun h=>⟨h,by omega⟩,fun h=>⟨h,by omega,by omega⟩,fun h=>⟨h,by omega⟩,fun h=>⟨h,by omega,by omega⟩,fun cI=>?_,fun _=>⟨(e+1,me,ce),⟨by simp only;omega,ab,cg⟩,by simp only;omega,by rw[ej]⟩⟩;simp only[Bool.and_eq_true,beq_iff_eq,bne_iff_ne] at cI;have fj:(ce.getD y []).length=ny:=by omega
  have dk:=Qo (cl:=ce) (y:=y) (by omega) (u:=u) (v:=v) (by omega) (by omega) cI.2;have cr:=Qp (p:=ce.getD y []) (u:=u) (v:=v) (by omega) (by omega);have b3:(iX (ce.getD y []) (ce.getD y []).length++[[(u:Int),(v:Int)]]).length<=1048576:=by rw[List.length_append,uh,List.length_singleton];omega
  have hl:(iX (ce.getD y []) (ce.getD y []).length).length<=120:=by rw[uh];omega
  generalize hP:iX (ce.getD y []) (ce.getD y []).length++[[(u:Int),(v:Int)]]=P at dk cr b3;rw[fj] at dk cr;have eg:=ab.set (y:=y) Z (n:=ny) b0 (P:=P)
  have dn:iV (ce.set y (cT (bV (bk ny) P)))+true.toNat<=iV cl:=by
   simp only[Bool.toNat_true];omega
  have et:y<ce.length:=by omega
  with_reducible (repeat' apply And.intro)
  all_goals(first
   | omega
   | (refine aj (YR (ce.getD y []) (by omega)) rfl (.inl (ow _)) ?_
      simp only[go_sem,hP,b0]
      with_reducible (repeat' apply And.intro)
      all_goals(first
       | omega
       | (refine aj (A9 ny P (by omega) b3 cr) rfl (.inl (bJ _)) ?_
          simp only[go_sem]
          exact⟨et,et,(e+1,true,_),⟨by simp only;omega,eg,dn⟩,by simp only;omega,by rw[ej]⟩))))
 ·refine aj (uA ay hc.cost) rfl (.inl (dA _)) ?_
  simp only[go_sem];have eB:=hI.len;simp only at eB;refine au [16,17] (fun(p:Nat×List Int)=>[(15,.int .i64 p.1),(14,.box [.int .i64 ay.ob,.o (ints ay.fr),.o (ints ay.to),.o (ints ay.an),.o (aC ay.co),.o (ints p.2),.o (aC [])])]) (fun p=>p.1<=sz.length/\p.2.length=p.1/\∀x,x<p.1->0<=p.2.getD x 0/\p.2.getD x 0<=120/\(∀i,i<(cl.getD x []).length->(cl.getD x []).getD i 0<p.2.getD x 0)/\(0<p.2.getD x 0->0<(cl.getD x []).length)) (fun p=>sz.length-p.1) (0,[]) (by simp only[go_sem];rfl) ⟨Nat.zero_le _,rfl,fun x I=>absurd I (Nat.not_lt_zero _)⟩ rfl ?_;rintro⟨x,os⟩ ⟨I,a6,ao⟩;simp only at I a6 ao;simp only[go_sem];have ad:=hI.row;have W:=hI.e8;simp only at ad W;refine⟨fun h1=>?_,fun h1=>?_⟩
  ·have a8:x<sz.length:=by omega
   obtain⟨nx,ag,b2⟩:=ax a8;have hr:=ad x a8;have gT:=aw a8 (show sz.length<=maxLen by simp only[maxLen];omega);refine au [] (fun(p:Nat×Int)=>[(16,.int .i64 p.2),(17,.int .i64 p.1)]) (fun p=>p.1<=(cl.getD x []).length/\0<=p.2/\p.2<=120/\(∀i,i<p.1->(cl.getD x []).getD i 0<p.2)/\(0<p.2->0<p.1)) (fun p=>(cl.getD x []).length-p.1) (0,0) (by simp only[go_sem];rfl) ⟨Nat.zero_le _,Int.le_refl _,by decide,fun i hi=>absurd hi (Nat.not_lt_zero _),fun h=>absurd h (Int.lt_irrefl _)⟩ rfl ?_;rintro⟨e,n⟩ ⟨he,ea,eb,cj,ec⟩;simp only at he ea eb cj ec;simp only[go_sem];refine⟨h1,fun S=>?_,fun S=>?_⟩
   ·have hs:=W x e a8 S
    rw[wrap_small (n:=(cl.getD x []).getD e 0+1) (by omega) (by omega)];refine⟨h1,S,(e+1,max n ((cl.getD x []).getD e 0+1)),⟨S,by simp only;omega,by simp only;omega,fun i hi=>?_,fun _=>by simp only;omega⟩,by simp only;omega,by rw[aw S (by simp only[maxLen];omega)]⟩;simp only at hi|-
    by_cases e7:i=e
    ·subst e7;omega
    ·have:=cj i (by omega);omega
   ·refine⟨by omega,(x+1,os++[n]),⟨a8,by rw[List.length_append,a6];rfl,fun x' a7=>?_⟩,by simp only;omega,by rw[gT]⟩
    rw[ee (by simp only at a7;omega)];split
    ·rename_i e'
     rw[e',a6];exact⟨ea,eb,fun i hi=>cj i (by omega),fun h=>by have:=ec h;omega⟩
    ·exact ao x' (by simp only at a7;omega)
  ·obtain rfl:x=sz.length:=by omega
   refine au [19,20,21,22] (fun(p:Nat×List (List Int))=>[(18,.int .i64 p.1),(14,.box [.int .i64 ay.ob,.o (ints ay.fr),.o (ints ay.to),.o (ints ay.an),.o (aC ay.co),.o (ints os),.o (aC p.2)])])
    (fun p=>p.1<=act.length/\p.2.length=p.1/\∀a,a<p.1->((p.2.getD a []).length:Int)=os.getD (ay.fr.getD a 0).toNat 0/\∀i,i<(p.2.getD a []).length->0<=(p.2.getD a []).getD i 0/\(p.2.getD a []).getD i 0<os.getD (ay.to.getD a 0).toNat 0) (fun p=>act.length-p.1) (0,[]) (by simp only[go_sem];rfl) ⟨Nat.zero_le _,rfl,fun x I=>absurd I (Nat.not_lt_zero _)⟩ rfl ?_
   rintro⟨a,oa⟩ ⟨ha,cp,bg⟩;simp only at ha cp bg;simp only[go_sem];refine⟨fun S=>?_,fun S=>?_⟩
   ·have hF:=hc.jO (f:=a) (by omega)
    have hT:=hc.lz (f:=a) (by omega);have b1:=hf.row a (by show a<ay.fr.length;omega);have V:=fun i=>hf.yM a i (by show a<ay.fr.length;omega)
    obtain⟨x,I⟩:∃x:Nat,ay.fr.getD a 0=x:=⟨(ay.fr.getD a 0).toNat,by omega⟩;obtain⟨y,hy⟩:∃y:Nat,ay.to.getD a 0=y:=⟨(ay.to.getD a 0).toNat,by omega⟩;simp only[I,hy,Int.toNat_natCast] at b1 V hF hT|-
    have Y:x<sz.length:=by omega
    have Z:y<sz.length:=by omega
    obtain⟨o1,o2,o3,o4⟩:=ao x Y;obtain⟨q1,q2,q3,q4⟩:=ao y Z;have fs:=ad x Y;have ht:=ad y Z;obtain⟨nx,ag,b2⟩:=ax Y;have cv:=aw S (show act.length<=maxLen by simp only[maxLen];omega);refine⟨by omega,by omega,⟨by omega,by omega⟩,⟨o1,Int.le_refl _,by omega⟩,?_⟩
    have ef : 0<os.getD x 0->0<os.getD y 0:=fun h=>by
     have h1:=o4 h;have S:=V 0 (by omega);have h3:=q3 0 (by omega);have h4:=W y 0 Z (by omega);omega
    refine au [] (fun(p:Nat×List Int)=>[(21,.o (ints p.2)),(22,.int .i64 p.1)]) (fun p=>p.1<=(cl.getD x []).length/\(p.2.length:Int)=os.getD x 0/\∀i,i<p.2.length->0<=p.2.getD i 0/\p.2.getD i 0<os.getD y 0) (fun p=>(cl.getD x []).length-p.1) (0,List.replicate (os.getD x 0).toNat 0) (by simp only[go_sem];rfl) ⟨Nat.zero_le _,by rw[List.length_replicate];omega,fun i hi=>?_⟩ rfl ?_
    ·rw[List.length_replicate] at hi
     rw[List.getD_eq_getElem?_getD,List.getElem?_replicate,if_pos hi];exact⟨Int.le_refl _,ef (by omega)⟩
    rintro⟨e,l⟩ ⟨he,b9,b5⟩;simp only at he b9 b5;simp only[go_sem];refine⟨by omega,fun h3=>?_,fun h3=>?_⟩
    ·have e1:=W x e Y h3
     have e2:=o3 e h3;have e3:=V e (by omega);obtain⟨u,hu⟩:∃u:Nat,(act.getD a []).getD e 0=u:=⟨((act.getD a []).getD e 0).toNat,by omega⟩;rw[hu] at e3|-
     have e4:=W y u Z (by omega);have e5:=q3 u (by omega);refine⟨by omega,h3,by omega,S,by omega,by omega,by omega,by omega,(e+1,l.set ((cl.getD x []).getD e 0).toNat ((cl.getD y []).getD u 0)),⟨h3,by rw[List.length_set];exact b9,fun i hi=>?_⟩,by simp only;omega,by rw[aw h3 (by rw[ag] at fs;simp only[maxLen];omega),Int.toNat_natCast]⟩;rw[List.length_set] at hi;rw[qD (by omega)];split
     ·exact⟨e4.1,e5⟩
     ·exact b5 i hi
    ·refine⟨by omega,(a+1,oa++[l]),⟨S,by rw[List.length_append,cp];rfl,fun a' cy=>?_⟩,by simp only;omega,by rw[cv]⟩
     rw[ee (by simp only at cy;omega)];split
     ·rename_i e'
      rw[e',cp,I,hy,Int.toNat_natCast,Int.toNat_natCast];exact⟨b9,b5⟩
     ·exact bg a' (by simp only at cy;omega)
   ·exact⟨_,_,⟨rfl,⟨ay,os,oa⟩,rfl,⟨rfl,by show(os.length:Int)=_;omega,fun x I=>⟨(ao x (by rw[<-a6];exact I)).1,(ao x (by rw[<-a6];exact I)).2.1⟩,by show oa.length=_;omega,fun b hb=>(bg b (by omega)).1,fun b i hb hi=>(bg b (by omega)).2 i hi⟩⟩,rfl,rfl,trivial⟩
end Go.D3
