/- CONTRACTS: set functors whose elements are glued, the reference's side. -/
import Derived.Test.YtpjbamibcngihaaGreatDoorGBI
import Derived.Test.YtpjbamibcngihaaGreatDoorGBJ
namespace Go.D3
open Go
set_option maxHeartbeats 4000000
set_option maxRecDepth 100000
structure Cu(f:Sf)(pr:List (List (List Int))):Prop where
 len:pr.length=f.sz.length
 ok:∀x,x<f.sz.length->(pr.getD x []).length<=1048576/\∀k,k<(pr.getD x []).length->∃a b:Nat,(pr.getD x []).getD k []=[(a:Int),(b:Int)]/\(a:Int)<f.sz.getD x 0/\(b:Int)<f.sz.getD x 0
def BO:List Nat:=[0,1,4,2,5,6,7,8,9,10,11,12,13,14,15,16,17,18,19,20,21,22,23]
def JM:Sl:=ak Go.Proofs.Tryz.types Go.Proofs.Tryz.f123 BO []
theorem RY:aF Go.Proofs.Tryz.prog Go.Proofs.Tryz.f123 BO JM 2=true:=by decide +kernel
theorem U5(c:aA)(hc:c.Shape)(f:Sf)(hf:oQ 120 c f)(pr:List (List (List Int)))(hp:Cu f pr):bM Go.Proofs.Tryz.prog 123 [f.d,gX pr] [] (vU 120 c):=by
 have h8:=hc.pN;have h0:=hc.rl;have hfl:=hc.fr;have hto:=hc.to;have hidn:=hc.bC;have hsl:=hf.r9;have hpl:=hp.len;have hal:=hf.al
 have hsn:∀{x},x<f.sz.length->∃n:Nat,f.sz.getD x 0=n/\n<=120:=fun hx=>by
  have:=hf.sz _ hx;exact⟨(f.sz.getD _ 0).toNat,(Int.toNat_of_nonneg this.1).symm,by omega⟩
 obtain⟨bw,sz,act⟩:=f;obtain rfl:bw=c:=hf.bw;simp only at hsl hpl hal hsn;refine dN .tree Go.Proofs.Tryz.func123 RY ?_;unfold JM ak BO;simp only[go_sem];refine aE [] (fun(p:Nat×List (List Int))=>[(4,.o (aI p.2)),(5,.int .i64 p.1)]) (fun p=>p.1<=sz.length/\p.2.length=p.1/\∀x,x<p.1->((p.2.getD x []).length:Int)=sz.getD x 0/\∀i,i<(p.2.getD x []).length->0<=(p.2.getD x []).getD i 0/\(p.2.getD x []).getD i 0<sz.getD x 0) (fun p=>sz.length-p.1) (0,[]) (by simp only[go_sem];rfl) ⟨Nat.zero_le _,rfl,fun x hx=>absurd hx (Nat.not_lt_zero _)⟩ rfl ?_;rintro⟨x,cl⟩ ⟨hx,hcl,hcg⟩;simp only at hx hcl hcg;simp only[go_sem];refine⟨fun h1=>?_,fun h1=>?_⟩
 ·obtain⟨n,hn,hn2⟩:=hsn h1
  obtain⟨hpx,hpo⟩:=hp.ok x h1;simp only at hpo;rw[hn] at hpo|-
  refine⟨h1,by omega,av (zr n (pr.getD x []) (by omega) hpx fun k hk=>?_) rfl (.inl (bZ _)) ?_⟩
  ·obtain⟨a,b,e,ha,hb⟩:=hpo k hk
   exact⟨a,b,e,by omega,by omega⟩
  obtain⟨j1,j2⟩:=E1 (n:=n) (P:=pr.getD x []);generalize gx (bT (cC n) (pr.getD x []))=q at j1 j2;simp only[go_sem];refine⟨by omega,(x+1,cl++[q]),⟨h1,by rw[List.length_append,hcl];rfl,fun x' hx'=>?_⟩,by simp only;omega,by rw[aM h1 (by simp only[maxLen];omega)]⟩;rw[eG (by simp only at hx';omega)];split
  ·rename_i e
   rw[e,hcl,hn,j1];exact⟨rfl,fun i hi=>j2 i hi⟩
  ·exact hcg x' (by simp only at hx';omega)
 obtain rfl:x=sz.length:=by omega
 have hI0:lK ⟨bw,sz,act⟩ cl:=⟨hcl,fun x hx=>(hcg x hx).1,fun x i hx hi=>(hcg x hx).2 i hi⟩;refine aE [7,8,9,10,11,12,13] (fun(p:Bool×List (List Int))=>[(4,.o (aI p.2)),(6,.bool p.1)]) (fun p=>lK ⟨bw,sz,act⟩ p.2) (fun p=>gZ p.2+p.1.toNat) (true,cl) (by simp only[go_sem];rfl) hI0 rfl ?_;rintro⟨more,cl⟩ hI;simp only at hI;simp only[go_sem];refine⟨fun hm=>?_,fun hm=>?_⟩
 ·subst hm
  refine aE [8,9,10,11,12,13] (fun(p:Nat×Bool×List (List Int))=>[(4,.o (aI p.2.2)),(6,.bool p.2.1),(7,.int .i64 p.1)]) (fun p=>p.1<=act.length/\lK ⟨bw,sz,act⟩ p.2.2/\gZ p.2.2+p.2.1.toNat<=gZ cl) (fun p=>act.length-p.1) (0,false,cl) (by simp only[go_sem];rfl) ⟨Nat.zero_le _,hI,Nat.le_refl _⟩ rfl ?_;rintro⟨a,mr,cm⟩ ⟨ha,hIm,hmu⟩;simp only at ha hIm hmu;simp only[go_sem];refine⟨fun h2=>?_,fun h2=>⟨(mr,cm),hIm,by simp only[Bool.toNat_true];omega,rfl⟩⟩;have hF:=hc.l7 (f:=a) (by omega);have hT:=hc.ni (f:=a) (by omega);have hrw:=hf.row a (by show a<bw.fr.length;omega);have hen:=fun i=>hf.xd a i (by show a<bw.fr.length;omega)
  obtain⟨x,hx⟩:∃x:Nat,bw.fr.getD a 0=x:=⟨(bw.fr.getD a 0).toNat,by omega⟩;obtain⟨y,hy⟩:∃y:Nat,bw.to.getD a 0=y:=⟨(bw.to.getD a 0).toNat,by omega⟩;simp only[hx,hy,Int.toNat_natCast] at hrw hen hF hT|-
  have hxl:x<sz.length:=by omega
  have hyl:y<sz.length:=by omega
  obtain⟨nx,hnx,hnx2⟩:=hsn hxl;obtain⟨ny,hny,hny2⟩:=hsn hyl;rw[hnx] at hrw;rw[hny] at hen;have hwa:=aM h2 (show act.length<=maxLen by simp only[maxLen];omega);refine⟨by omega,by omega,?_⟩;refine aE [11,12,13] (fun(p:Nat×Bool×List (List Int))=>[(4,.o (aI p.2.2)),(6,.bool p.2.1),(10,.int .i64 p.1)]) (fun p=>p.1<=nx/\lK ⟨bw,sz,act⟩ p.2.2/\gZ p.2.2+p.2.1.toNat<=gZ cl) (fun p=>nx-p.1) (0,mr,cm) (by simp only[go_sem];rfl) ⟨Nat.zero_le _,hIm,hmu⟩ rfl ?_;rintro⟨d,md,cd⟩ ⟨hd,hId,hmd⟩;simp only at hd hId hmd;have hdl:=hId.len;have hdx:=hId.row x hxl;simp only[hnx] at hdx;simp only at hdl;simp only[go_sem];refine⟨by omega,fun h3=>?_,fun h3=>⟨(a+1,md,cd),⟨h2,hId,hmd⟩,by simp only;omega,by rw[hwa]⟩⟩;have hwd:=aM (i:=d) (n:=nx) (by omega) (by simp only[maxLen];omega);refine aE [12,13] (fun(p:Nat×Bool×List (List Int))=>[(4,.o (aI p.2.2)),(6,.bool p.2.1),(11,.int .i64 p.1)]) (fun p=>p.1<=d/\lK ⟨bw,sz,act⟩ p.2.2/\gZ p.2.2+p.2.1.toNat<=gZ cl) (fun p=>d-p.1) (0,md,cd) (by simp only[go_sem];rfl) ⟨Nat.zero_le _,hId,hmd⟩ rfl ?_;rintro⟨e,me,ce⟩ ⟨he,hIe,hme⟩;simp only at he hIe hme;have hel:=hIe.len;have hex:=hIe.row x hxl;have hey:=hIe.row y hyl;simp only[hnx] at hex;simp only[hny] at hey;simp only at hel;simp only[go_sem];refine⟨fun h4=>?_,fun h4=>⟨(d+1,me,ce),⟨by simp only;omega,hIe,hme⟩,by simp only;omega,by rw[hwd]⟩⟩;have hwe:=aM (i:=e) (n:=d) (by omega) (by simp only[maxLen];omega);have hu:=hen d (by omega);have hv:=hen e (by omega);obtain⟨u,hu2⟩:∃u:Nat,(act.getD a []).getD d 0=u:=⟨((act.getD a []).getD d 0).toNat,by omega⟩;obtain⟨v,hv2⟩:∃v:Nat,(act.getD a []).getD e 0=v:=⟨((act.getD a []).getD e 0).toNat,by omega⟩;simp only[hu2,hv2,Int.toNat_natCast] at hu hv|-
  refine⟨h2,by omega,h2,by omega,by omega,by omega,by omega,by omega,fun h=>⟨h,by omega⟩,fun h=>⟨h,by omega,by omega⟩,fun h=>⟨h,by omega⟩,fun h=>⟨h,by omega,by omega⟩,fun hc1=>?_,fun _=>⟨(e+1,me,ce),⟨by simp only;omega,hIe,hme⟩,by simp only;omega,by rw[hwe]⟩⟩;simp only[Bool.and_eq_true,beq_iff_eq,bne_iff_ne] at hc1;have hpn:(ce.getD y []).length=ny:=by omega
  have hgm:=M4 (cl:=ce) (y:=y) (by omega) (u:=u) (v:=v) (by omega) (by omega) hc1.2;have hpr:=M5 (p:=ce.getD y []) (u:=u) (v:=v) (by omega) (by omega);have hpln:(hY (ce.getD y []) (ce.getD y []).length++[[(u:Int),(v:Int)]]).length<=1048576:=by rw[List.length_append,rA,List.length_singleton];omega
  have hpl0:(hY (ce.getD y []) (ce.getD y []).length).length<=120:=by rw[rA];omega
  generalize hP:hY (ce.getD y []) (ce.getD y []).length++[[(u:Int),(v:Int)]]=P at hgm hpr hpln;rw[hpn] at hgm hpr;have hset:=hIe.set (y:=y) hyl (n:=ny) hny (P:=P)
  have hmu2:gZ (ce.set y (gx (bT (cC ny) P)))+true.toNat<=gZ cl:=by
   simp only[Bool.toNat_true];omega
  have hyc:y<ce.length:=by omega
  with_reducible (repeat' apply And.intro)
  all_goals(first
   | omega
   | (refine av (UW (ce.getD y []) (by omega)) rfl (.inl (ff _)) ?_
      simp only[go_sem,hP,hny]
      with_reducible (repeat' apply And.intro)
      all_goals(first
       | omega
       | (refine av (zr ny P (by omega) hpln hpr) rfl (.inl (bZ _)) ?_
          simp only[go_sem]
          exact⟨hyc,hyc,(e+1,true,_),⟨by simp only;omega,hset,hmu2⟩,by simp only;omega,by rw[hwe]⟩))))
 ·refine av (zu bw hc.cost) rfl (.inl (ye _)) ?_
  simp only[go_sem];have hIl:=hI.len;simp only at hIl;refine aE [16,17] (fun(p:Nat×List Int)=>[(15,.int .i64 p.1),(14,.box [.int .i64 bw.ob,.o (ints bw.fr),.o (ints bw.to),.o (ints bw.bC),.o (aI bw.co),.o (ints p.2),.o (aI [])])]) (fun p=>p.1<=sz.length/\p.2.length=p.1/\∀x,x<p.1->0<=p.2.getD x 0/\p.2.getD x 0<=120/\(∀i,i<(cl.getD x []).length->(cl.getD x []).getD i 0<p.2.getD x 0)/\(0<p.2.getD x 0->0<(cl.getD x []).length)) (fun p=>sz.length-p.1) (0,[]) (by simp only[go_sem];rfl) ⟨Nat.zero_le _,rfl,fun x hx=>absurd hx (Nat.not_lt_zero _)⟩ rfl ?_;rintro⟨x,os⟩ ⟨hx,hos,hog⟩;simp only at hx hos hog;simp only[go_sem];have hrow:=hI.row;have hrng:=hI.eL;simp only at hrow hrng;refine⟨fun h1=>?_,fun h1=>?_⟩
  ·have hxs:x<sz.length:=by omega
   obtain⟨nx,hnx,hnx2⟩:=hsn hxs;have hr1:=hrow x hxs;have hwx:=aM hxs (show sz.length<=maxLen by simp only[maxLen];omega);refine aE [] (fun(p:Nat×Int)=>[(16,.int .i64 p.2),(17,.int .i64 p.1)]) (fun p=>p.1<=(cl.getD x []).length/\0<=p.2/\p.2<=120/\(∀i,i<p.1->(cl.getD x []).getD i 0<p.2)/\(0<p.2->0<p.1)) (fun p=>(cl.getD x []).length-p.1) (0,0) (by simp only[go_sem];rfl) ⟨Nat.zero_le _,Int.le_refl _,by decide,fun i hi=>absurd hi (Nat.not_lt_zero _),fun h=>absurd h (Int.lt_irrefl _)⟩ rfl ?_;rintro⟨e,n⟩ ⟨he,hn0,hn1,hng,hnz⟩;simp only at he hn0 hn1 hng hnz;simp only[go_sem];refine⟨h1,fun h2=>?_,fun h2=>?_⟩
   ·have hr2:=hrng x e hxs h2
    rw[wrap_small (n:=(cl.getD x []).getD e 0+1) (by omega) (by omega)];refine⟨h1,h2,(e+1,max n ((cl.getD x []).getD e 0+1)),⟨h2,by simp only;omega,by simp only;omega,fun i hi=>?_,fun _=>by simp only;omega⟩,by simp only;omega,by rw[aM h2 (by simp only[maxLen];omega)]⟩;simp only at hi|-
    by_cases hie:i=e
    ·subst hie;omega
    ·have:=hng i (by omega);omega
   ·refine⟨by omega,(x+1,os++[n]),⟨hxs,by rw[List.length_append,hos];rfl,fun x' hx'=>?_⟩,by simp only;omega,by rw[hwx]⟩
    rw[eG (by simp only at hx';omega)];split
    ·rename_i e'
     rw[e',hos];exact⟨hn0,hn1,fun i hi=>hng i (by omega),fun h=>by have:=hnz h;omega⟩
    ·exact hog x' (by simp only at hx';omega)
  ·obtain rfl:x=sz.length:=by omega
   refine aE [19,20,21,22] (fun(p:Nat×List (List Int))=>[(18,.int .i64 p.1),(14,.box [.int .i64 bw.ob,.o (ints bw.fr),.o (ints bw.to),.o (ints bw.bC),.o (aI bw.co),.o (ints os),.o (aI p.2)])])
    (fun p=>p.1<=act.length/\p.2.length=p.1/\∀a,a<p.1->((p.2.getD a []).length:Int)=os.getD (bw.fr.getD a 0).toNat 0/\∀i,i<(p.2.getD a []).length->0<=(p.2.getD a []).getD i 0/\(p.2.getD a []).getD i 0<os.getD (bw.to.getD a 0).toNat 0) (fun p=>act.length-p.1) (0,[]) (by simp only[go_sem];rfl) ⟨Nat.zero_le _,rfl,fun x hx=>absurd hx (Nat.not_lt_zero _)⟩ rfl ?_
   rintro⟨a,oa⟩ ⟨ha,hoa,hag⟩;simp only at ha hoa hag;simp only[go_sem];refine⟨fun h2=>?_,fun h2=>?_⟩
   ·have hF:=hc.l7 (f:=a) (by omega)
    have hT:=hc.ni (f:=a) (by omega);have hrw:=hf.row a (by show a<bw.fr.length;omega);have hen:=fun i=>hf.xd a i (by show a<bw.fr.length;omega)
    obtain⟨x,hx⟩:∃x:Nat,bw.fr.getD a 0=x:=⟨(bw.fr.getD a 0).toNat,by omega⟩;obtain⟨y,hy⟩:∃y:Nat,bw.to.getD a 0=y:=⟨(bw.to.getD a 0).toNat,by omega⟩;simp only[hx,hy,Int.toNat_natCast] at hrw hen hF hT|-
    have hxl:x<sz.length:=by omega
    have hyl:y<sz.length:=by omega
    obtain⟨o1,o2,o3,o4⟩:=hog x hxl;obtain⟨q1,q2,q3,q4⟩:=hog y hyl;have hrx:=hrow x hxl;have hry:=hrow y hyl;obtain⟨nx,hnx,hnx2⟩:=hsn hxl;have hwa:=aM h2 (show act.length<=maxLen by simp only[maxLen];omega);refine⟨by omega,by omega,⟨by omega,by omega⟩,⟨o1,Int.le_refl _,by omega⟩,?_⟩
    have hpos : 0<os.getD x 0->0<os.getD y 0:=fun h=>by
     have h1:=o4 h;have h2:=hen 0 (by omega);have h3:=q3 0 (by omega);have h4:=hrng y 0 hyl (by omega);omega
    refine aE [] (fun(p:Nat×List Int)=>[(21,.o (ints p.2)),(22,.int .i64 p.1)]) (fun p=>p.1<=(cl.getD x []).length/\(p.2.length:Int)=os.getD x 0/\∀i,i<p.2.length->0<=p.2.getD i 0/\p.2.getD i 0<os.getD y 0) (fun p=>(cl.getD x []).length-p.1) (0,List.replicate (os.getD x 0).toNat 0) (by simp only[go_sem];rfl) ⟨Nat.zero_le _,by rw[List.length_replicate];omega,fun i hi=>?_⟩ rfl ?_
    ·rw[List.length_replicate] at hi
     rw[List.getD_eq_getElem?_getD,List.getElem?_replicate,if_pos hi];exact⟨Int.le_refl _,hpos (by omega)⟩
    rintro⟨e,l⟩ ⟨he,hll,hlg⟩;simp only at he hll hlg;simp only[go_sem];refine⟨by omega,fun h3=>?_,fun h3=>?_⟩
    ·have e1:=hrng x e hxl h3
     have e2:=o3 e h3;have e3:=hen e (by omega);obtain⟨u,hu⟩:∃u:Nat,(act.getD a []).getD e 0=u:=⟨((act.getD a []).getD e 0).toNat,by omega⟩;rw[hu] at e3|-
     have e4:=hrng y u hyl (by omega);have e5:=q3 u (by omega);refine⟨by omega,h3,by omega,h2,by omega,by omega,by omega,by omega,(e+1,l.set ((cl.getD x []).getD e 0).toNat ((cl.getD y []).getD u 0)),⟨h3,by rw[List.length_set];exact hll,fun i hi=>?_⟩,by simp only;omega,by rw[aM h3 (by rw[hnx] at hrx;simp only[maxLen];omega),Int.toNat_natCast]⟩;rw[List.length_set] at hi;rw[oG (by omega)];split
     ·exact⟨e4.1,e5⟩
     ·exact hlg i hi
    ·refine⟨by omega,(a+1,oa++[l]),⟨h2,by rw[List.length_append,hoa];rfl,fun a' ha'=>?_⟩,by simp only;omega,by rw[hwa]⟩
     rw[eG (by simp only at ha';omega)];split
     ·rename_i e'
      rw[e',hoa,hx,hy,Int.toNat_natCast,Int.toNat_natCast];exact⟨hll,hlg⟩
     ·exact hag a' (by simp only at ha';omega)
   ·exact⟨_,_,⟨rfl,⟨bw,os,oa⟩,rfl,⟨rfl,by show(os.length:Int)=_;omega,fun x hx=>⟨(hog x (by rw[<-hos];exact hx)).1,(hog x (by rw[<-hos];exact hx)).2.1⟩,by show oa.length=_;omega,fun b hb=>(hag b (by omega)).1,fun b i hb hi=>(hag b (by omega)).2 i hi⟩⟩,rfl,rfl,trivial⟩
end Go.D3
