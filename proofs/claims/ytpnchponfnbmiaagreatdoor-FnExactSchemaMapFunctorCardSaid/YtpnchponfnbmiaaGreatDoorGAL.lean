/- CONTRACTS: how the program composes least paths. -/
import Derived.Test.YtpnchponfnbmiaaGreatDoorGAK
import Derived.Test.YtpnchponfnbmiaaGreatDoorGAB
import Derived.Test.YtpnchponfnbmiaaGreatDoorHG
import Derived.Test.YtpnchponfnbmiaaGreatDoorGAF
import Derived.Test.YtpnchponfnbmiaaGreatDoorGAG
namespace Go.D3
open Go
set_option maxHeartbeats 4000000
set_option maxRecDepth 100000
abbrev qU(list:List Pth)(cl:List Int)(K:List Pth):D:=.ptr [j5 list,ints cl,U Pth.d Pth.zero K]
def zn:List Nat:=[0,1,2,6]
def Gf:Sl:=ae Go.Proofs.Tryz.types Go.Proofs.Tryz.f143 zn []
theorem NU:aD Go.Proofs.Tryz.prog Go.Proofs.Tryz.f143 zn Gf 3=true:=by decide +kernel
theorem tw{s:Sch}(hs:gi s){list K:List Pth}{cl:List Int}(R:ju s list cl K){i:Nat}(hi:i<list.length)(x:Int)(ed:List Int)(hq:list.getD i Pth.zero=⟨x,ed⟩) :
  al Go.Proofs.Tryz.prog 143 [.v (qU list cl K),.v (.int .i64 x),.v (ints ed)] (.int .i64 (cl.getD i 0)):=by
 have hv:∀p∈list,s.sp p:=R.sh.a.v;have hsp:s.sp ⟨x,ed⟩:=hq▸hv _ (cR hi);have h6:ed.length<=6:=by obtain⟨z,hz⟩:=hsp;exact(bw.1 hz).2.1
 have hcl:=R.c.len;refine aA Go.Proofs.Tryz.func143 NU ?_;unfold Gf ae zn;simp only[go_sem];refine ak (xE x ed (rl hs hsp) (by omega)) rfl (.inl rfl) ?_;simp only[go_sem];obtain⟨j,hj,e1,e2⟩:=Bd hs hv R.sh.nd (p:=⟨x,ed⟩) (hq▸cR hi);obtain rfl:j=i:=getD_inj R.sh.nd hj hi (e1.trans hq.symm);rw[e2];exact⟨⟨by omega,by omega⟩,rfl⟩
def yT:List Nat:=[0,1,2,3,6,7,8,9,11,13]
def FN:Sl:=ae Go.Proofs.Tryz.types Go.Proofs.Tryz.f183 yT []
theorem Nv:aD Go.Proofs.Tryz.prog Go.Proofs.Tryz.f183 yT FN 4=true:=by decide +kernel
theorem Rs[Mode]{s:Sch}(hs:gi s)(X Y:D){K:List Pth}(hK:∀p∈K,s.sp p)(a b:Nat)(ha:a<K.length)(hb:b<K.length) :
  al Go.Proofs.Tryz.prog 183 [.v (.int .i64 a),.v (.int .i64 b),.v (.ptr [.ptr [X,Y,U Pth.d Pth.zero K]]),.v (.ptr [.ptr s.cells])] (.int .i64 (mP s (K.getD a Pth.zero) (K.getD b Pth.zero))):=by
 obtain⟨u,hu⟩:=hK _ (cR (d:=Pth.zero) ha);obtain⟨v,hv⟩:=hK _ (cR (d:=Pth.zero) hb);have hto:=hs.to;have h0:=hs.n0;refine aA Go.Proofs.Tryz.func183 Nv ?_;unfold FN ae yT;simp only[go_sem];have e1:=mc s (K.getD a Pth.zero) hto h0;have e2:=mc s (K.getD b Pth.zero) hto h0;rw[hu] at e1;rw[hv] at e2;simp only[gN] at e1 e2;have hl1:=(bw.1 hu).2.1;have hl2:=(bw.1 hv).2.1;refine⟨ha,hb,ak e1 rfl (.inl rfl) ?_⟩;simp only[go_sem];refine ak e2 rfl (.inl rfl) ?_;simp only[go_sem];refine ak (xC [(K.getD a Pth.zero).st,u] [(K.getD b Pth.zero).st,v] (Nat.le_of_ble_eq_true rfl) (Nat.le_of_ble_eq_true rfl)) rfl (.inl rfl) ?_;simp only[go_sem];unfold mP Sch.en;rw[hu,hv,Option.getD_some,Option.getD_some];refine⟨fun h=>?_,fun h=>?_⟩
 ·rw[bne_iff_ne] at h
  rw[if_pos h]
 ·rw[bne_eq_false_iff_eq] at h
  rw[if_neg (by rw[Decidable.not_not];exact h)];refine ak (E1 (K.getD a Pth.zero) (K.getD b Pth.zero) (by omega) (by omega)) rfl (.inl rfl) ?_;simp only[go_sem]
theorem Tg:dY Go.Proofs.Tryz.prog 182=true:=by
 simp only[dY,Go.Proofs.Tryz.func182];rfl
theorem Cd{n:Nat}:((List.finRange n).map fun i=>(i.1:Int))=br n:=by
 refine List.ext_getElem (by simp[br]) fun i h1 h2=>?_
 simp[br]
theorem JN{s:Sch}{K:List Pth}:Go.Sort.SWO (α:=Fin K.length) (Go.Proofs.ltOf fun a b=>mP s (K.getD a.1 Pth.zero) (K.getD b.1 Pth.zero)):=by
 refine⟨fun x=>?_,fun x y z h1 h2=>?_,fun x y z h1 h2=>?_⟩
 ·simp only[Go.Proofs.ltOf,decide_eq_false_iff_not,rV];exact o7
 ·simp only[Go.Proofs.ltOf,decide_eq_true_eq,rV] at *;exact lt_trans h1 h2
 ·simp only[Go.Proofs.ltOf,decide_eq_false_iff_not,rV] at *
  intro h;by_cases h3:s.lt (K.getD y.1 Pth.zero) (K.getD x.1 Pth.zero)
  ·exact h2 (lt_trans h3 h)
  ·rw[lt_eq h1 h3] at h
   exact h2 h
def Ij(s:Sch)(K:List Pth)(rc:D)(gs:List D):Prop:=gs=[]/\∃O,rc=.o (ints O)/\O.Perm (br K.length)/\O.Pairwise fun a b=>¬s.lt (K.getD b.toNat Pth.zero) (K.getD a.toNat Pth.zero)
def yS:List Nat:=[0,1,4,2,3,5]
def FM:Sl:=ae Go.Proofs.Tryz.types Go.Proofs.Tryz.f141 yS [(0,182)]
theorem Nu:aD Go.Proofs.Tryz.prog Go.Proofs.Tryz.f141 yS FM 2=true:=by decide +kernel
theorem QX{s:Sch}(hs:gi s){K:List Pth}(hK:∀p∈K,s.sp p)(hl:K.length<=400)(X Y:D):bV Go.Proofs.Tryz.prog 141 [.ptr s.cells,.ptr [X,Y,U Pth.d Pth.zero K]] [] (Ij s K):=by
 have hsort:bV Go.Proofs.Tryz.prog 182 [.sub 0 [],.fn 183 [.ptr [.ptr [X,Y,U Pth.d Pth.zero K]],.ptr [.ptr s.cells]]] [.o (ints (br K.length))] fun rc gs=>rc=.af []/\∃l':List (Fin K.length),gs=[.o (ints (l'.map fun i=>(i.1:Int)))]/\l'.Perm (List.finRange K.length)/\l'.Pairwise fun a b=>¬mP s (K.getD b.1 Pth.zero) (K.getD a.1 Pth.zero)<0:=by
  have:=Ry Go.Proofs.Tryz.Td Tg (Go.Proofs.enters_of Go.Proofs.Tryz.func183 (by kernel_rfl) rfl) (caps:=[.ptr [.ptr [X,Y,U Pth.d Pth.zero K]],.ptr [.ptr s.cells]]) (fun c hc=>by
   simp only[List.mem_cons,List.not_mem_nil,or_false] at hc
   rcases hc with rfl | rfl<;>trivial) (n:=K.length) (by omega) (fun a b=>mP s (K.getD a Pth.zero) (K.getD b Pth.zero)) JN (fun a b ha hb=>@Rs ⟨true⟩ s hs X Y K hK a b ha hb) (List.finRange K.length) (by simp;omega)
  rw[Cd] at this;exact this
 refine nK .tree Go.Proofs.Tryz.func141 Nu ?_;unfold FM ae yS;simp only[go_sem];refine ak (E3 K.length (by omega)) rfl (.inl (bL _)) ?_;simp only[go_sem];refine mS [5] false hsort ?_;rintro _ _ ⟨rfl,l,rfl,hp,hs'⟩;refine⟨(by repeat(first | exact trivial | refine⟨(fun h=>by cases h),?_⟩)),(fun h=>by cases h),?_⟩;simp only[go_sem];refine⟨_,[],⟨rfl,l.map fun i=>(i.1:Int),rfl,?_,?_⟩,rfl,rfl,trivial⟩
 ·have:=hp.map fun i=>(i.1:Int)
  rwa [Cd] at this
 ·rw[List.pairwise_map]
  refine hs'.imp fun {a b} h=>?_
  simp only[Int.toNat_natCast];exact fun hl=>h (rV.2 hl)
end Go.D3
namespace Go.D3
open Go
set_option maxHeartbeats 4000000
set_option maxRecDepth 100000
def yF:List Nat:=[0,2]
def Fz:Sl:=ae Go.Proofs.Tryz.types Go.Proofs.Tryz.f185 yF []
theorem Ng:aD Go.Proofs.Tryz.prog Go.Proofs.Tryz.f185 yF Fz 1=true:=by decide +kernel
theorem xA(c:ai):al Go.Proofs.Tryz.prog 185 [.v (.ptr c.cells)] (.int .i64 c.fr.length):=by
 refine aA Go.Proofs.Tryz.func185 Ng ?_;unfold Fz ae yF;simp only[go_sem]
def yH:List Nat:=[0,1,4]
def FB:Sl:=ae Go.Proofs.Tryz.types Go.Proofs.Tryz.f240 yH []
theorem Ni:aD Go.Proofs.Tryz.prog Go.Proofs.Tryz.f240 yH FB 2=true:=by decide +kernel
theorem EZ(c:ai)(f:Int)(h0 : 0<=f)(h1:f<c.fr.length)(h2:f<c.to.length):al Go.Proofs.Tryz.prog 240 [.v (.ptr c.cells),.v (.int .i64 f)] (.agg [.int .i64 (c.fr.getD f.toNat 0),.int .i64 (c.to.getD f.toNat 0)]):=by
 refine aA Go.Proofs.Tryz.func240 Ni ?_;unfold FB ae yH;simp only[go_sem];exact⟨⟨h0,h1⟩,h0,h2⟩
def yM:List Nat:=[0,1,2,6]
def FG:Sl:=ae Go.Proofs.Tryz.types Go.Proofs.Tryz.f92 yM []
theorem No:aD Go.Proofs.Tryz.prog Go.Proofs.Tryz.f92 yM FG 3=true:=by decide +kernel
theorem xB(c:ai)(f g:Int)(h0 : 0<=f)(h1:f<c.co.length)(h2 : 0<=g)(h3:g<(c.co.getD f.toNat []).length):al Go.Proofs.Tryz.prog 92 [.v (.ptr c.cells),.v (.int .i64 f),.v (.int .i64 g)] (.int .i64 ((c.co.getD f.toNat []).getD g.toNat 0)):=by
 refine aA Go.Proofs.Tryz.func92 No ?_;unfold FG ae yM;simp only[go_sem];exact⟨⟨h0,h1⟩,h2,h3⟩
def yK:List Nat:=[0,2,3,4,5,6,7,8,9,86,87,88,104,105,106,115,116,117]
def FE:Sl:=ae Go.Proofs.Tryz.types Go.Proofs.Tryz.f212 yK []
theorem Nl:aD Go.Proofs.Tryz.prog Go.Proofs.Tryz.f212 yK FE 1=true:=by decide +kernel
theorem QR(c:ai):al Go.Proofs.Tryz.prog 212 [.v (.ptr c.cells)] (.bool c.gC):=by
 refine aA Go.Proofs.Tryz.func212 Nl ?_;unfold FE ae yK;simp only[go_sem];refine ak (xA c) rfl (.inl rfl) ?_;simp only[go_sem];refine ak (pC _ _ _) rfl (.inl rfl) ?_;simp only[go_sem]
 have pj:∀x:Bool,(bm c.ob 0 8&&x)=true->0<=c.ob:=fun x h=>by
  simp only[bm,Bool.and_eq_true,decide_eq_true_eq] at h;exact h.1.1
 refine⟨(fun h=>by simp only[Bool.not_eq_false'] at h|-;exact h),(fun h=>by simp only[Bool.or_eq_false_iff,Bool.and_eq_true,Bool.not_eq_true',Bool.not_eq_false'] at h|-;exact h),?_⟩;refine bO (fun h=>pE c.ob c.fr (pj _ (by rw[<-Bool.and_assoc];exact h))) rfl (fun h=>h) (.inl rfl) ?_;simp only[go_sem];refine⟨(fun h=>by simp only[Bool.or_eq_false_iff,Bool.and_eq_true,Bool.not_eq_true',Bool.not_eq_false'] at h|-;exact h),?_⟩;refine bO (fun h=>pE c.ob c.to (pj _ (by rw[<-Bool.and_assoc,<-Bool.and_assoc];exact h))) rfl (fun h=>h) (.inl rfl) ?_;simp only[go_sem];refine⟨(fun h=>by simp only[Bool.or_eq_false_iff,Bool.and_eq_true,Bool.not_eq_true',Bool.not_eq_false'] at h|-;exact h),fun h=>?_,fun h=>?_⟩
 ·symm;refine ai.sT fun hp=>?_
  have h1:bm c.ob 0 8=true:=by simp[bm,hp.pj,hp.wB]
  have h2:=hp.fr;simp[h1,hp.vA,hp.to,hp.yD] at h;omega
 refine bO (fun h=>pE c.fr.length c.aL (by omega)) rfl (fun h=>h) (.inl rfl) ?_;simp only[go_sem];refine⟨(fun h=>by simp only[Bool.not_eq_true'] at h|-;exact h),(fun h=>by simp only[Bool.or_eq_false_iff,Bool.and_eq_true,Bool.not_eq_true',Bool.not_eq_false'] at h|-;exact h),fun h2=>?_,fun h2=>?_⟩
 ·symm;refine ai.sT fun hp=>?_
  simp[hp.aL,hp.vG,hp.co] at h2
 have hp:c.Pre:=by
  simp only[Bool.or_eq_false_iff,Bool.not_eq_false',bne_eq_false_iff_eq,decide_eq_false_iff_not,bm,Bool.and_eq_true,decide_eq_true_eq] at h h2;obtain⟨⟨⟨⟨h1,h3⟩,h4⟩,h5⟩,h6⟩:=h;exact⟨h1.1,h1.2,by omega,h5,by omega,h6,by omega,h2.1.1,h2.1.2⟩
 clear h h2 pj;have hob:=hp.aL;have hm:=hp.fr;have hco:=hp.co;have hto:=hp.to;refine aI [3,4] (fun(x:Nat)=>[(11,.int .i64 x)]) (fun x=>x<=c.aL.length/\ca x c.iY=true) (fun x=>c.aL.length-x) 0 (by simp only[go_sem];rfl) ⟨Nat.zero_le _,rfl⟩ rfl ?_;rintro x ⟨hx,ha⟩;simp only[go_sem];refine⟨fun hxl=>⟨hxl,?_⟩,fun h=>?_⟩
 ·have hid:=hp.idx hxl
  refine ak (EZ c _ hid.1 hid.2 (by omega)) rfl (.inl rfl) ?_;simp only[go_sem];refine⟨fun h=>?_,fun h=>⟨x+1,⟨by omega,jx ha (by rw[Bool.not_eq_false'] at h;exact h)⟩,by omega,by rw[aH hxl (by have:=hp.iw;simp only[maxLen];omega)]⟩⟩;exact(ai.Dw hxl (by rw[Bool.not_eq_true'] at h;exact h)).symm
 have:x=c.aL.length:=by omega
 subst this;refine aI [5,6,7,8,15,16,17] (fun(f:Nat)=>[(14,.int .i64 f)]) (fun f=>f<=c.fr.length/\ca f c.jm=true) (fun f=>c.fr.length-f) 0 (by simp only[go_sem];rfl) ⟨Nat.zero_le _,rfl⟩ rfl ?_;rintro f ⟨hf,hb⟩;simp only[go_sem];refine⟨fun hfl'=>⟨hfl',fun h=>?_,fun h=>?_⟩,fun h=>?_⟩
 ·exact(ai.wy (f:=f) (by omega) (by simp only[ai.jm];rw[Bool.and_eq_false_iff];left;rw[bne_iff_ne] at h;simpa using h)).symm
 ·rw[bne_eq_false_iff_eq] at h
  have hrow:(c.co.getD f []).length=c.fr.length:=by omega
  refine aI [7,8] (fun(g:Nat)=>[(17,.int .i64 g)]) (fun g=>g<=c.fr.length/\ca g (c.gm f)=true) (fun g=>c.fr.length-g) 0 (by simp only[go_sem];rfl) ⟨Nat.zero_le _,rfl⟩ rfl ?_;rintro g ⟨hg,hc⟩;simp only[go_sem]
  have hcb:c.gm f g=if c.to.getD f 0 != c.fr.getD g 0 then(c.co.getD f []).getD g 0 == -1
   else decide (0<=(c.co.getD f []).getD g 0)&&decide ((c.co.getD f []).getD g 0<c.fr.length)&&(c.fr.getD ((c.co.getD f []).getD g 0).toNat 0 == c.fr.getD f 0)&&(c.to.getD ((c.co.getD f []).getD g 0).toNat 0 == c.to.getD g 0):=rfl
  generalize(c.co.getD f []).getD g 0=h at hcb;have hfl:f<c.fr.length:=by omega
  refine⟨fun hgl'=>?_,fun hgl=>?_⟩
  ·have hgl:g<c.fr.length:=by omega
   have step:c.gm f g=true->∃x',(x'<=c.fr.length/\ca x' (c.gm f)=true)/\c.fr.length-x'<c.fr.length-g/\IntKind.i64.wrap ((g:Int)+1)=(x':Int):=fun hh=>⟨g+1,⟨by omega,jx hc hh⟩,by omega,aH hgl (by simp only[maxLen];omega)⟩
   refine⟨hgl',by omega,hgl,fun h3=>⟨fun h4=>?_,fun h4=>?_⟩,fun h3=>?_⟩
   ·exact(ai.sS hfl hgl (by rw[hcb,if_pos h3];simpa using h4)).symm
   ·obtain⟨x',e1,e2,e3⟩:=step (by rw[hcb,if_pos h3];simpa using h4)
    exact⟨x',e1,e2,by rw[e3]⟩
   ·rw[hcb,if_neg (by rw[h3];decide)] at step
    have nc:∀b:Bool,(decide (0<=h)&&decide (h<c.fr.length)&&(c.fr.getD h.toNat 0 == c.fr.getD f 0)&&(c.to.getD h.toNat 0 == c.to.getD g 0))=b->c.gm f g=b:=fun b hb=>by rw[hcb,if_neg (by rw[h3];decide)];exact hb
    refine ak (pC _ _ _) rfl (.inl rfl) ?_;simp only[go_sem];rw[Cz (by omega) (by omega)];have hr:(decide (0<=h)&&decide (h<(c.fr.length:Int)))=true->0<=h/\h<c.fr.length:=fun h=>by simpa using h
    refine bO (fun h4=>EZ c h (hr h4).1 (hr h4).2 (by have:=(hr h4).2;omega)) rfl (fun h=>h) (.inl rfl) ?_;simp only[go_sem];refine⟨fun h4=>⟨h4,hfl⟩,fun h4=>⟨h4,by omega⟩,fun h4=>by rw[Bool.not_eq_false'] at h4;exact h4,fun h4=>?_,fun h4=>?_⟩
    ·refine(ai.sS hfl hgl (nc _ ?_)).symm
     rw[<-Bool.not_and,Bool.not_eq_true',<-Bool.and_assoc] at h4;exact h4
    ·rw[<-Bool.not_and,Bool.not_eq_false',<-Bool.and_assoc] at h4
     obtain⟨x',e1,e2,e3⟩:=step h4;exact⟨x',e1,e2,by rw[e3]⟩
  ·have:g=c.fr.length:=by omega
   subst this;refine⟨f+1,⟨by omega,jx hb (by simp only[ai.jm];rw[hc,hrow];simp)⟩,by omega,by rw[aH hfl (by simp only[maxLen];omega)]⟩
 ·have:f=c.fr.length:=by omega
  subst this;exact(ai.CE hp ha hb).symm
theorem mb{c:ai}(hs:c.Shape)(f g:Int)(h0 : 0<=f)(h1:f<c.fr.length)(h2 : 0<=g)(h3:g<c.fr.length):al Go.Proofs.Tryz.prog 92 [.v (.ptr c.cells),.v (.int .i64 f),.v (.int .i64 g)] (.int .i64 (c.bE f g)) :=
 xB c f g h0 (by have:=hs.co;omega) h2 (by rw[hs.xP h0 h1];exact h3)
def yI:List Nat:=[0,2,3,4,5,6,7,8,9,10]
def FC:Sl:=ae Go.Proofs.Tryz.types Go.Proofs.Tryz.f213 yI []
theorem Nj:aD Go.Proofs.Tryz.prog Go.Proofs.Tryz.f213 yI FC 1=true:=by decide +kernel
theorem QP(c:ai)(hs:c.Shape):al Go.Proofs.Tryz.prog 213 [.v (.ptr c.cells)] (fd c.kg):=by
 have hm:=hs.fr;have hml:c.fr.length<=maxLen:=by simp only[maxLen];omega
 have hto:=hs.to;have hco:=hs.co;refine aA Go.Proofs.Tryz.func213 Nj ?_;unfold FC ae yI;simp only[go_sem];refine ak (xA c) rfl (.inl rfl) ?_;simp only[go_sem];refine aI [] (fun(f:Nat)=>[(6,.int .i64 f)]) (fun f=>f<=c.fr.length/\∀j,j<f->c.mY j=false) (fun f=>c.fr.length-f) 0 (by simp only[go_sem];rfl) ⟨Nat.zero_le _,fun j hj=>by omega⟩ rfl ?_;rintro f ⟨hf,ha⟩;simp only[go_sem];refine⟨fun h=>?_,fun h=>?_⟩
 ·have e1:=hs.Cg h
  have e2:=hs.oU e1.1 e1.2;have e4:=hs.HV h;have e5:=hs.oU e4.1 e4.2;refine⟨h,e1,ak (mb hs (c.fQ (c.fr.getD f 0)) f e2.1 e2.2 (by omega) (by omega)) rfl (.inl rfl) ?_⟩;simp only[go_sem];refine⟨fun h2=>⟨h2,by omega⟩,fun h2=>⟨h2,e4⟩,bO (fun h=>mb hs f (c.fQ (c.to.getD f 0)) (by omega) (by omega) e5.1 e5.2) rfl (fun h=>h) (.inl rfl) ?_⟩;simp only[go_sem];refine⟨fun h2=>by simpa only[Bool.not_eq_true'] using h2,fun h2=>?_,fun h2=>?_⟩
  ·rw[ai.B8 ha h h2];rfl
  ·exact⟨f+1,⟨by omega,fun j hj=>by by_cases hjf:j<f;exact ha j hjf;rw[show j=f by omega];exact h2⟩,by omega,by rw[aH h hml]⟩
 have:f=c.fr.length:=by omega
 subst this;refine aI [8,9] (fun(f:Nat)=>[(7,.int .i64 f)]) (fun f=>f<=c.fr.length/\∀f' g' h',f'<f->g'<c.fr.length->h'<c.fr.length->c.dy f' g' h'=false) (fun f=>c.fr.length-f) 0 (by simp only[go_sem];rfl) ⟨Nat.zero_le _,fun _ _ _ hj=>by omega⟩ rfl ?_;rintro f ⟨hf,hb⟩;simp only[go_sem];refine⟨fun hfl=>?_,fun h=>?_⟩
 ·refine aI [9] (fun(g:Nat)=>[(8,.int .i64 g)]) (fun g=>g<=c.fr.length/\∀g' h',g'<g->h'<c.fr.length->c.dy f g' h'=false) (fun g=>c.fr.length-g) 0 (by simp only[go_sem];rfl) ⟨Nat.zero_le _,fun _ _ hj=>by omega⟩ rfl ?_
  rintro g ⟨hg,hc⟩;simp only[go_sem];refine⟨fun hgl=>?_,fun h=>?_⟩
  ·refine ak (mb hs f g (by omega) (by omega) (by omega) (by omega)) rfl (.inl rfl) ?_
   simp only[go_sem];by_cases h2:c.to.getD f 0=c.fr.getD g 0
   ·have e1:=hs.lA hfl hgl h2
    refine⟨fun h3=>by omega,fun h3=>?_⟩;refine aI [] (fun(h:Nat)=>[(9,.int .i64 h)]) (fun h=>h<=c.fr.length/\∀h',h'<h->c.dy f g h'=false) (fun h=>c.fr.length-h) 0 (by simp only[go_sem];rfl) ⟨Nat.zero_le _,fun _ hj=>by omega⟩ rfl ?_;rintro h ⟨hh,hd⟩;simp only[go_sem];refine⟨fun hhl=>?_,fun h4=>?_⟩
    ·have hgh : 0<=c.bE g h->c.bE g h<c.fr.length/\c.to.getD g 0=c.fr.getD h 0:=fun h0=>by
      by_cases he:c.to.getD g 0=c.fr.getD h 0
      ·exact⟨(hs.lA hgl hhl he).2.1,he⟩
      ·rw[hs.BE hgl hhl he] at h0;exact absurd h0 (by decide)
     have hgh2:c.to.getD g 0=c.fr.getD h 0->0<=c.bE g h:=fun he=>(hs.lA hgl hhl he).1
     have hd2:∀{x:Int},decide (0<=x)=true->0<=x:=fun h=>by simpa using h
     refine ak (mb hs g h (by omega) (by omega) (by omega) (by omega)) rfl (.inl rfl) ?_;simp only[go_sem];refine bO (fun _=>mb hs f g (by omega) (by omega) (by omega) (by omega)) rfl (fun h=>h) (.inl rfl) ?_;simp only[go_sem];refine bO (fun _=>mb hs (c.bE f g) h e1.1 e1.2.1 (by omega) (by omega)) rfl (fun h=>h) (.inl rfl) ?_;simp only[go_sem];refine bO (fun _=>mb hs g h (by omega) (by omega) (by omega) (by omega)) rfl (fun h=>h) (.inl rfl) ?_;simp only[go_sem];refine bO (fun h5=>mb hs f (c.bE g h) (by omega) (by omega) (hd2 h5) (hgh (hd2 h5)).1) rfl (fun h=>h) (.inl rfl) ?_;simp only[go_sem]
     have hasf:c.dy f g h=(decide (0<=c.bE g h)&&c.bE (c.bE f g) h != c.bE f (c.bE g h)):=by
      rw[ai.A9 h2];congr 1;rw[Bool.eq_iff_iff,beq_iff_eq,decide_eq_true_eq];exact⟨hgh2,fun h5=>(hgh h5).2⟩
     rw[<-hasf];refine⟨fun h5=>?_,fun h5=>?_⟩
     ·rw[ai.B7 ha hfl hgl hhl h5 hd hc hb];rfl
     ·exact⟨h+1,⟨by omega,lQ hd h5⟩,by omega,by rw[aH hhl hml]⟩
    ·have:h=c.fr.length:=by omega
     subst this;exact⟨g+1,⟨by omega,fun g' h' hg' hh'=>lQ (P:=fun g'=>c.dy f g' h'=false) (fun j hj=>hc j h' hj hh') (hd h' hh') g' hg'⟩,by omega,by rw[aH hgl hml]⟩
   ·refine⟨fun h3=>⟨g+1,⟨by omega,fun g' h' hg' hh'=>lQ (P:=fun g'=>c.dy f g' h'=false) (fun j hj=>hc j h' hj hh') (ai.A8 h2) g' hg'⟩,by omega,by rw[aH hgl hml]⟩,fun h3=>?_⟩
    rw[hs.BE hfl hgl h2] at h3;exact absurd h3 (by decide)
  ·have:g=c.fr.length:=by omega
   subst this;exact⟨f+1,⟨by omega,fun f' g' h' hf' hg' hh'=>lQ (P:=fun f'=>c.dy f' g' h'=false) (fun j hj=>hb j g' h' hj hg' hh') (hc g' h' hg' hh') f' hf'⟩,by omega,by rw[aH hfl hml]⟩
 ·have:f=c.fr.length:=by omega
  subst this;rw[ai.B9 ha hb];rfl
def yJ:List Nat:=[0,2,3]
def FD:Sl:=ae Go.Proofs.Tryz.types Go.Proofs.Tryz.f186 yJ []
theorem Nk:aD Go.Proofs.Tryz.prog Go.Proofs.Tryz.f186 yJ FD 1=true:=by decide +kernel
theorem QQ(c:ai):al Go.Proofs.Tryz.prog 186 [.v (.ptr c.cells)] (.bool c.jb):=by
 refine aA Go.Proofs.Tryz.func186 Nk ?_;unfold FD ae yJ;simp only[go_sem];refine ak (QR c) rfl (.inl rfl) ?_;simp only[go_sem];refine⟨fun h=>?_,fun h=>?_⟩
 ·unfold ai.jb;rw[Bool.not_eq_true'] at h;rw[h];rfl
 rw[Bool.not_eq_false'] at h;refine ak (QP c (ai.tL.1 h)) rfl (.inl rfl) ?_;simp only[fd];simp only[go_sem];unfold ai.jb;rw[h];rfl
end Go.D3
namespace Go.D3
open Go
set_option maxHeartbeats 4000000
set_option maxRecDepth 100000
abbrev pv(S:D)(x:au)(Y:D):List D:=[S,.int .i64 x.c.ob,ints x.c.fr,ints x.c.to,ints x.c.aL,aO x.c.co,ints x.ed,Y]
def zp:List Nat:=[0,1,4,3,5,7,18,19,20]
def Gh:Sl:=ae Go.Proofs.Tryz.types Go.Proofs.Tryz.f56 zp []
theorem NW:aD Go.Proofs.Tryz.prog Go.Proofs.Tryz.f56 zp Gh 2=true:=by decide +kernel
theorem tD{s:Sch}{x:au}(hx:fL s x)(S Y:D){p:Pth}{y:Int}(hp:s.aF p=some y):al Go.Proofs.Tryz.prog 56 [.v (.ptr (pv S x Y)),.v (Pth.d p)] (.int .i64 (x.arr p p.ed.length)):=by
 obtain⟨h1,h2,_⟩:=bw.1 hp;have hi:=hx.sh.aL;have ho:=hx.ob;have hco:=hx.sh.co;have hed:=hx.ed
 have he:∀i,i<p.ed.length->∃k:Nat,p.ed.getD i 0=k/\k<s.fr.length:=fun i hi=>by
  have hm:=kf hp (i:=i+1) hi;rw[b9 hi 0] at hm;obtain⟨k,k1,k2,_⟩:=oS hm;exact⟨k,k1,k2⟩
 refine aA Go.Proofs.Tryz.func56 NW ?_;unfold Gh ae zp;simp only[go_sem];refine⟨by omega,?_⟩;refine aI [5] (fun(i:Nat)=>[(4,.int .i64 (x.arr p i)),(8,.int .i64 i)]) (fun i=>i<=p.ed.length) (fun i=>p.ed.length-i) 0 (by simp only[go_sem];rfl) (Nat.zero_le _) rfl ?_;intro i hi;simp only[go_sem];refine⟨fun h3=>?_,fun h3=>?_⟩
 ·obtain⟨k,k1,k2⟩:=he i h3
  obtain⟨a1,a2,_⟩:=hx.ar k k2;obtain⟨a,m,e3,e4,_⟩:=au.ot hx hp i (by omega);have hr:=hx.sh.row a e4
  have hs:x.arr p (i+1)=x.c.bE (x.arr p i) (x.ed.getD (p.ed.getD i 0).toNat 0):=by
   unfold au.arr;rw[b9 h3 0,List.foldl_append];rfl
  have hge : 0<=x.ed.getD (p.ed.getD i 0).toNat 0/\x.ed.getD (p.ed.getD i 0).toNat 0<x.c.fr.length:=by
   rw[k1,Int.toNat_natCast];exact⟨a1,a2⟩
  refine⟨h3,by omega,gJ (bs:=[_,_,_]) (xB x.c (x.arr p i) (x.ed.getD (p.ed.getD i 0).toNat 0) (by omega) (by omega) hge.1 (by rw[e3,Int.toNat_natCast];omega)) rfl ⟨.inr ⟨5,_,rfl,rfl⟩,.inl rfl,.inl rfl,trivial⟩ (.inl rfl) ?_⟩;simp only[go_sem];exact⟨i+1,h3,by omega,by rw[hs,aH h3 (by simp only[maxLen];omega)];rfl⟩
 ·rw[show i=p.ed.length by omega]
def zq:List Nat:=[0,2,3,4,5,14,15,16,34,35]
def Gi:Sl:=ae Go.Proofs.Tryz.types Go.Proofs.Tryz.f146 zq []
theorem NX:aD Go.Proofs.Tryz.prog Go.Proofs.Tryz.f146 zq Gi 1=true:=by decide +kernel
theorem QL{s:Sch}(h:s.ok=true){ls:List Pth}(hL:s.cu ls)(h40:ls.length<=40):al Go.Proofs.Tryz.prog 146 [.v (.ptr (pv (.ptr s.cells) (s.cM ls) (U Pth.d Pth.zero ls)))] (.bool (s.fx (s.cM ls))):=by
 obtain⟨hk1,hlf,hrt⟩:=fg h;have hlse:(s.cM ls).ls=ls:=rfl;refine aA Go.Proofs.Tryz.func146 NX ?_;unfold Gi ae zq;simp only[go_sem];refine gJ (bs:=[_]) (QQ (s.cM ls).c) rfl ⟨.inr ⟨5,_,rfl,rfl⟩,trivial⟩ (.inl rfl) ?_;simp only[go_sem];refine⟨fun hB=>?_,fun hB=>?_⟩
 ·rw[show s.fx (s.cM ls)=false from Bool.eq_false_iff.2 fun hg=>by
   unfold Sch.fx at hg;simp only[Bool.and_eq_true] at hg
   rw[hg.1.1] at hB;cases hB]
 have hB:(s.cM ls).c.jb=true:=by simpa using hB
 have hx:=yw h hL hB;refine aI [2,3] (fun(f:Nat)=>[(7,.int .i64 f)]) (fun f=>f<=ls.length/\∀j,j<f->(s.cM ls).arr (ls.getD j Pth.zero) (ls.getD j Pth.zero).ed.length=j) (fun f=>ls.length-f) 0 (by simp only[go_sem];rfl) ⟨Nat.zero_le _,fun j hj=>absurd hj (Nat.not_lt_zero _)⟩ rfl ?_;rintro f ⟨hf2,hfa⟩;simp only[go_sem];refine⟨fun h7=>?_,fun h7=>?_⟩
 ·obtain⟨y,hy⟩:=hL.sp _ (cR (d:=Pth.zero) h7)
  refine⟨h7,ak (tD hx _ _ hy) rfl (.inl rfl) ?_⟩;simp only[go_sem];refine⟨fun hn=>?_,fun hn=>⟨f+1,⟨h7,fun j hj=>?_⟩,by omega,by rw[aH h7 (by simp only[maxLen];omega)]⟩⟩
  ·rw[show s.fx (s.cM ls)=false from Bool.eq_false_iff.2 fun hg=>by
    unfold Sch.fx at hg;simp only[Bool.and_eq_true,jw,beq_iff_eq] at hg;rw[bne_iff_ne] at hn
    exact hn (hg.1.2 f h7)]
  ·by_cases hjf:j<f
   ·exact hfa j hjf
   ·obtain rfl:j=f:=by omega
    rwa [bne_eq_false_iff_eq] at hn
 obtain rfl:f=ls.length:=by omega
 refine aI [4] (fun(i:Nat)=>[(9,.int .i64 i)]) (fun i=>i<=s.lf.length/\∀j,j<i->(s.cM ls).arr (s.lf.getD j Pth.zero) (s.lf.getD j Pth.zero).ed.length=(s.cM ls).arr (s.rt.getD j Pth.zero) (s.rt.getD j Pth.zero).ed.length) (fun i=>s.lf.length-i) 0 (by simp only[go_sem];rfl) ⟨Nat.zero_le _,fun j hj=>absurd hj (Nat.not_lt_zero _)⟩ rfl ?_;rintro i ⟨hi,hia⟩;simp only[go_sem];refine⟨fun h8=>?_,fun h8=>?_⟩
 ·obtain⟨z,hp,hq,aG⟩:=ok_eq h h8
  refine⟨h8,ak (tD hx _ _ hp) rfl (.inl rfl) ?_⟩;simp only[go_sem];refine⟨by omega,ak (tD hx _ _ hq) rfl (.inl rfl) ?_⟩;simp only[go_sem];refine⟨fun hn=>?_,fun hn=>⟨i+1,⟨h8,fun j hj=>?_⟩,by omega,by rw[aH h8 (by simp only[maxLen];omega)]⟩⟩
  ·rw[show s.fx (s.cM ls)=false from Bool.eq_false_iff.2 fun hg=>by
    unfold Sch.fx at hg;simp only[Bool.and_eq_true,jw,beq_iff_eq] at hg;rw[bne_iff_ne] at hn
    exact hn (hg.2 i h8)]
  ·by_cases hji:j<i
   ·exact hia j hji
   ·obtain rfl:j=i:=by omega
    rwa [bne_eq_false_iff_eq] at hn
 ·rw[show s.fx (s.cM ls)=true from ?_]
  unfold Sch.fx;simp only[Bool.and_eq_true,jw,beq_iff_eq];exact⟨⟨hB,fun j hj=>hfa j hj⟩,fun j hj=>hia j (by omega)⟩
end Go.D3
namespace Go.D3
open Go
set_option maxHeartbeats 4000000
set_option maxRecDepth 100000
structure og(s:Sch)(list:List Pth)(cl:List Int)(K:List Pth)(O B:List Int)(ls:List Pth):Prop where
 r:ju s list cl K
 eq:ls=O.map fun c=>K.getD c.toNat Pth.zero
 U:s.cu ls
 all:∀d:Nat,d<K.length->(d:Int)∈O
 eW:∀i,i<O.length->0<=O.getD i 0/\O.getD i 0<K.length
 b:∀x,x<O.length->B.getD (O.getD x 0).toNat 0=x
 bl:B.length=K.length
theorem og.at{s:Sch}(hok:s.ok=true){list K ls:List Pth}{cl O B:List Int}(R:og s list cl K O B ls){p:Pth}(hp:s.sp p) :
  ∃i c x:Nat,i<list.length/\list.getD i Pth.zero=p/\cl.getD i 0=c/\c<K.length/\B.getD c 0=x/\x<ls.length/\K.getD c Pth.zero=ls.getD x Pth.zero/\s.no ls p=x:=by
 obtain⟨y,hy⟩:=hp;obtain⟨i,hi,rfl⟩:=dZ (d:=Pth.zero) (R.r.sh.a.a _ y hy);obtain⟨c,c1,c2,x,x1,x2,x3,x4⟩:=ie.no hok R.r.sh.a R.r.c R.r.k (O:=O) (by rw[<-R.eq];exact R.U) (B:=B) R.b R.all hi;rw[<-R.eq] at x4;have hl:ls.length=O.length:=by rw[R.eq,List.length_map]
 refine⟨i,c,x,hi,rfl,c1,c2,x1,by omega,?_,x4⟩;rw[R.eq,kF (0:Int) x2,x3,Int.toNat_natCast]
theorem og.fZ{s:Sch}{list K ls:List Pth}{cl O B:List Int}(R:og s list cl K O B ls){h:Nat}(hh:h<ls.length):(ls.getD h Pth.zero).ed.length<6:=by
 have hl:ls.length=O.length:=by rw[R.eq,List.length_map]
 have hr:=R.eW h (by omega);rw[R.eq,kF (0:Int) (by omega)];exact R.r.fZ _ (cR (by omega))
def yX:List Nat:=[0,1,2,3,4,7,8,10,25,26,27]
def FR:Sl:=ae Go.Proofs.Tryz.types Go.Proofs.Tryz.f145 yX []
theorem Nz:aD Go.Proofs.Tryz.prog Go.Proofs.Tryz.f145 yX FR 5=true:=by decide +kernel
theorem Rv{s:Sch}(h:s.ok=true){list K ls:List Pth}{cl O B:List Int}(R:og s list cl K O B ls)(d0 d1 d2 d3 d4 d5 d6:D)(f g:Nat)(hf:f<ls.length)(hg:g<ls.length)(he:s.en (ls.getD f Pth.zero)=(ls.getD g Pth.zero).st) :
  al Go.Proofs.Tryz.prog 145 [.v (.int .i64 f),.v (.int .i64 g),.v (.ptr [.ptr [d0,d1,d2,d3,d4,d5,d6,U Pth.d Pth.zero ls]]),.v (.ptr [qU list cl K]),.v (.ptr [ints B])] (.int .i64 ((ls.getD g Pth.zero).ed.foldl (s.jq ls) f)):=by
 have hs:=ga (fg h).1;have hf8:=hs.f8;obtain⟨y,hy⟩:=R.U.sp _ (cR (d:=Pth.zero) hf);obtain⟨z,hz⟩:=R.U.sp _ (cR (d:=Pth.zero) hg);have hen:=oJ hy;rw[he] at hen;generalize hG:ls.getD g Pth.zero=G at hz hen;have hG6:=(bw.1 hz).2.1;refine aA Go.Proofs.Tryz.func145 Nz ?_;unfold FR ae yX;simp only[go_sem];rw[hG];refine⟨hf,hg,?_⟩;refine aI [7] (fun(p:Nat×Nat)=>[(6,.box [.int .i64 (ls.getD p.2 Pth.zero).st,ints (ls.getD p.2 Pth.zero).ed]),(10,.int .i64 p.1)]) (fun p=>p.1<=G.ed.length/\p.2<ls.length/\(p.2:Int)=(G.ed.take p.1).foldl (s.jq ls) (f:Int)/\∃u v,s.aF (ls.getD p.2 Pth.zero)=some u/\bp s.fr s.to u (G.ed.drop p.1)=some v) (fun p=>G.ed.length-p.1) (0,f) (by simp only[go_sem];rfl) ⟨Nat.zero_le _,hf,rfl,y,z,hy,by rw[<-hen];exact(bw.1 hz).2.2⟩ rfl ?_;rintro⟨k,m⟩ ⟨hk,hm,hfo,u,v,hu,hv⟩;simp only at hk hm hfo hu hv;simp only[go_sem];refine⟨fun h1=>?_,fun h1=>?_⟩
 ·have hd:=si (fr:=s.fr) (to:=s.to) (x:=u) h1
  rw[hv] at hd;split at hd
  ·rename_i hc
   simp only[bm,Bool.and_eq_true,decide_eq_true_eq,beq_iff_eq] at hc;obtain⟨k0,hek⟩:∃k0:Nat,G.ed.getD k 0=k0:=⟨(G.ed.getD k 0).toNat,by omega⟩;rw[hek,Int.toNat_natCast] at hc hd;have H6:=R.fZ hm;have hadd:=mT (p:=ls.getD m Pth.zero) (e:=k0) (by rw[hc.2];exact hu) (by omega) H6;obtain⟨i,c,x,i1,i2,c1,c2,x1,x2,x3,x4⟩:=R.at h ⟨_,hadd⟩;rw[<-hek] at i2 x4
   have hfo2:(x:Int)=(G.ed.take (k+1)).foldl (s.jq ls) (f:Int):=by
    rw[b9 h1 0,List.foldl_append,<-hfo];show _=s.jq ls m (G.ed.getD k 0);unfold Sch.jq;rw[Int.toNat_natCast,x4]
   have hnx:∃u v,s.aF (ls.getD x Pth.zero)=some u/\bp s.fr s.to u (G.ed.drop (k+1))=some v:=by
    refine⟨_,v,?_,hd.symm⟩;obtain⟨x',e1,e2,e3⟩:=R.U.Dq ⟨_,hadd⟩;rw[<-hek,x4] at e1;obtain rfl:x'=x:=by omega
    rw[<-(lC h e3).2.1,hadd]
   have hwk:=aH h1 (show G.ed.length<=maxLen by simp only[maxLen];omega);refine⟨h1,?_⟩
   with_reducible (repeat' apply And.intro)
   all_goals(
    refine ak (jl (ls.getD m Pth.zero).ed (by omega)) rfl (.inl (bL _)) ?_;simp only[go_sem];refine⟨by omega,ak (tw hs R.r i1 _ _ i2) rfl (.inl rfl) ?_⟩;simp only[go_sem,c1,x3]
    exact⟨by omega,(k+1,x),⟨h1,x2,hfo2,hnx⟩,by simp only;omega,by rw[hwk]⟩)
  ·cases hd
 ·obtain⟨i,c,x,i1,i2,c1,c2,x1,x2,x3,x4⟩:=R.at h ⟨_,hu⟩
  refine ak (tw hs R.r i1 _ _ i2) rfl (.inl rfl) ?_;simp only[go_sem,c1,x1];have e:=R.U.sO hm (.refl ⟨_,hu⟩);have hbl:=R.bl;refine⟨by omega,?_⟩;rw[<-x4,e,hfo,List.take_of_length_le (by omega)]
end Go.D3
