/- CONTRACTS: categories, the program's side: shape, faults. -/
import Derived.Test.YtpnchponfnbmiaaGreatDoorGAA
import Derived.Test.YtpnchponfnbmiaaGreatDoorHG
namespace Go.D3
open Go Proofs
set_option maxHeartbeats 4000000
set_option maxRecDepth 100000
def BH:List Nat:=[0,2]
def J4:Sl:=ah Tryz.types Tryz.f185 BH []
theorem Tw:aC Tryz.prog Tryz.f185 BH J4 1=true:=by decide +kernel
theorem AL(c:au):aw Tryz.prog 185 [.v (.ptr c.cells)] (.int .i64 c.fr.length):=by
 refine aK Tryz.func185 Tw ?_;unfold J4 ah BH;simp only[go_sem]
def BJ:List Nat:=[0,1,4]
def J6:Sl:=ah Tryz.types Tryz.f240 BJ []
theorem Tz:aC Tryz.prog Tryz.f240 BJ J6 2=true:=by decide +kernel
theorem Jv(c:au)(f:Int)(h0 : 0<=f)(h1:f<c.fr.length)(h2:f<c.to.length):aw Tryz.prog 240 [.v (.ptr c.cells),.v (.int .i64 f)] (.agg [.int .i64 (c.fr.getD f.toNat 0),.int .i64 (c.to.getD f.toNat 0)]):=by
 refine aK Tryz.func240 Tz ?_;unfold J6 ah BJ;simp only[go_sem];exact⟨⟨h0,h1⟩,h0,h2⟩
def BO:List Nat:=[0,1,2,6]
def Kb:Sl:=ah Tryz.types Tryz.f92 BO []
theorem TE:aC Tryz.prog Tryz.f92 BO Kb 3=true:=by decide +kernel
theorem Jw(c:au)(f g:Int)(h0 : 0<=f)(h1:f<c.co.length)(h2 : 0<=g)(h3:g<(c.co.getD f.toNat []).length):aw Tryz.prog 92 [.v (.ptr c.cells),.v (.int .i64 f),.v (.int .i64 g)] (.int .i64 ((c.co.getD f.toNat []).getD g.toNat 0)):=by
 refine aK Tryz.func92 TE ?_;unfold Kb ah BO;simp only[go_sem];exact⟨⟨h0,h1⟩,h2,h3⟩
def BM:List Nat:=[0,2,3,4,5,6,7,8,9,86,87,88,104,105,106,115,116,117]
def J9:Sl:=ah Tryz.types Tryz.f212 BM []
theorem TC:aC Tryz.prog Tryz.f212 BM J9 1=true:=by decide +kernel
theorem XC(c:au):aw Tryz.prog 212 [.v (.ptr c.cells)] (.bool c.iD):=by
 refine aK Tryz.func212 TC ?_;unfold J9 ah BM;simp only[go_sem];refine an (AL c) rfl (.inl rfl) ?_;simp only[go_sem];refine an (lL _ _ _) rfl (.inl rfl) ?_;simp only[go_sem]
 have rm:∀x:Bool,(aR c.ob 0 8&&x)=true->0<=c.ob:=fun x h=>by
  simp only[aR,Bool.and_eq_true,decide_eq_true_eq] at h;exact h.1.1
 refine⟨(fun h=>by simp only[Bool.not_eq_false'] at h|-;exact h),(fun h=>by simp only[Bool.or_eq_false_iff,Bool.and_eq_true,Bool.not_eq_true',Bool.not_eq_false'] at h|-;exact h),?_⟩;refine bu (fun h=>pX c.ob c.fr (rm _ (by rw[<-Bool.and_assoc];exact h))) rfl (fun h=>h) (.inl rfl) ?_;simp only[go_sem];refine⟨(fun h=>by simp only[Bool.or_eq_false_iff,Bool.and_eq_true,Bool.not_eq_true',Bool.not_eq_false'] at h|-;exact h),?_⟩;refine bu (fun h=>pX c.ob c.to (rm _ (by rw[<-Bool.and_assoc,<-Bool.and_assoc];exact h))) rfl (fun h=>h) (.inl rfl) ?_;simp only[go_sem];refine⟨(fun h=>by simp only[Bool.or_eq_false_iff,Bool.and_eq_true,Bool.not_eq_true',Bool.not_eq_false'] at h|-;exact h),fun h=>?_,fun h=>?_⟩
 ·symm;refine au.vU fun hp=>?_
  have h1:aR c.ob 0 8=true:=by simp[aR,hp.rm,hp.zC]
  have h2:=hp.fr;simp[h1,hp.yJ,hp.to,hp.BG] at h;omega
 refine bu (fun h=>pX c.fr.length c.aU (by omega)) rfl (fun h=>h) (.inl rfl) ?_;simp only[go_sem];refine⟨(fun h=>by simp only[Bool.not_eq_true'] at h|-;exact h),(fun h=>by simp only[Bool.or_eq_false_iff,Bool.and_eq_true,Bool.not_eq_true',Bool.not_eq_false'] at h|-;exact h),fun h2=>?_,fun h2=>?_⟩
 ·symm;refine au.vU fun hp=>?_
  simp[hp.aU,hp.yT,hp.co] at h2
 have hp:c.Pre:=by
  simp only[Bool.or_eq_false_iff,Bool.not_eq_false',bne_eq_false_iff_eq,decide_eq_false_iff_not,aR,Bool.and_eq_true,decide_eq_true_eq] at h h2;obtain⟨⟨⟨⟨h1,h3⟩,h4⟩,h5⟩,h6⟩:=h;exact⟨h1.1,h1.2,by omega,h5,by omega,h6,by omega,h2.1.1,h2.1.2⟩
 clear h h2 rm;have hob:=hp.aU;have hm:=hp.fr;have hco:=hp.co;have hto:=hp.to;refine aE [3,4] (fun(x:Nat)=>[(11,.int .i64 x)]) (fun x=>x<=c.aU.length/\dI x c.me=true) (fun x=>c.aU.length-x) 0 (by simp only[go_sem];rfl) ⟨Nat.zero_le _,rfl⟩ rfl ?_;rintro x ⟨hx,ha⟩;simp only[go_sem];refine⟨fun hxl=>⟨hxl,?_⟩,fun h=>?_⟩
 ·have hid:=hp.idx hxl
  refine an (Jv c _ hid.1 hid.2 (by omega)) rfl (.inl rfl) ?_;simp only[go_sem];refine⟨fun h=>?_,fun h=>⟨x+1,⟨by omega,qp ha (by rw[Bool.not_eq_false'] at h;exact h)⟩,by omega,by rw[aL hxl (by have:=hp.jE;simp only[maxLen];omega)]⟩⟩;exact(au.HS hxl (by rw[Bool.not_eq_true'] at h;exact h)).symm
 have:x=c.aU.length:=by omega
 subst this;refine aE [5,6,7,8,15,16,17] (fun(f:Nat)=>[(14,.int .i64 f)]) (fun f=>f<=c.fr.length/\dI f c.kO=true) (fun f=>c.fr.length-f) 0 (by simp only[go_sem];rfl) ⟨Nat.zero_le _,rfl⟩ rfl ?_;rintro f ⟨hf,hb⟩;simp only[go_sem];refine⟨fun hfl'=>⟨hfl',fun h=>?_,fun h=>?_⟩,fun h=>?_⟩
 ·exact(au.zy (f:=f) (by omega) (by simp only[au.kO];rw[Bool.and_eq_false_iff];left;rw[bne_iff_ne] at h;simpa using h)).symm
 ·rw[bne_eq_false_iff_eq] at h
  have hrow:(c.co.getD f []).length=c.fr.length:=by omega
  refine aE [7,8] (fun(g:Nat)=>[(17,.int .i64 g)]) (fun g=>g<=c.fr.length/\dI g (c.iq f)=true) (fun g=>c.fr.length-g) 0 (by simp only[go_sem];rfl) ⟨Nat.zero_le _,rfl⟩ rfl ?_;rintro g ⟨hg,hc⟩;simp only[go_sem]
  have hcb:c.iq f g=if c.to.getD f 0 != c.fr.getD g 0 then(c.co.getD f []).getD g 0 == -1
   else decide (0<=(c.co.getD f []).getD g 0)&&decide ((c.co.getD f []).getD g 0<c.fr.length)&&(c.fr.getD ((c.co.getD f []).getD g 0).toNat 0 == c.fr.getD f 0)&&(c.to.getD ((c.co.getD f []).getD g 0).toNat 0 == c.to.getD g 0):=rfl
  generalize(c.co.getD f []).getD g 0=h at hcb;have hfl:f<c.fr.length:=by omega
  refine⟨fun hgl'=>?_,fun hgl=>?_⟩
  ·have hgl:g<c.fr.length:=by omega
   have step:c.iq f g=true->∃x',(x'<=c.fr.length/\dI x' (c.iq f)=true)/\c.fr.length-x'<c.fr.length-g/\IntKind.i64.wrap ((g:Int)+1)=(x':Int):=fun hh=>⟨g+1,⟨by omega,qp hc hh⟩,by omega,aL hgl (by simp only[maxLen];omega)⟩
   refine⟨hgl',by omega,hgl,fun h3=>⟨fun h4=>?_,fun h4=>?_⟩,fun h3=>?_⟩
   ·exact(au.vT hfl hgl (by rw[hcb,if_pos h3];simpa using h4)).symm
   ·obtain⟨x',e1,e2,e3⟩:=step (by rw[hcb,if_pos h3];simpa using h4)
    exact⟨x',e1,e2,by rw[e3]⟩
   ·rw[hcb,if_neg (by rw[h3];decide)] at step
    have nc:∀b:Bool,(decide (0<=h)&&decide (h<c.fr.length)&&(c.fr.getD h.toNat 0 == c.fr.getD f 0)&&(c.to.getD h.toNat 0 == c.to.getD g 0))=b->c.iq f g=b:=fun b hb=>by rw[hcb,if_neg (by rw[h3];decide)];exact hb
    refine an (lL _ _ _) rfl (.inl rfl) ?_;simp only[go_sem];rw[Gx (by omega) (by omega)];have hr:(decide (0<=h)&&decide (h<(c.fr.length:Int)))=true->0<=h/\h<c.fr.length:=fun h=>by simpa using h
    refine bu (fun h4=>Jv c h (hr h4).1 (hr h4).2 (by have:=(hr h4).2;omega)) rfl (fun h=>h) (.inl rfl) ?_;simp only[go_sem];refine⟨fun h4=>⟨h4,hfl⟩,fun h4=>⟨h4,by omega⟩,fun h4=>by rw[Bool.not_eq_false'] at h4;exact h4,fun h4=>?_,fun h4=>?_⟩
    ·refine(au.vT hfl hgl (nc _ ?_)).symm
     rw[<-Bool.not_and,Bool.not_eq_true',<-Bool.and_assoc] at h4;exact h4
    ·rw[<-Bool.not_and,Bool.not_eq_false',<-Bool.and_assoc] at h4
     obtain⟨x',e1,e2,e3⟩:=step h4;exact⟨x',e1,e2,by rw[e3]⟩
  ·have:g=c.fr.length:=by omega
   subst this;refine⟨f+1,⟨by omega,qp hb (by simp only[au.kO];rw[hc,hrow];simp)⟩,by omega,by rw[aL hfl (by simp only[maxLen];omega)]⟩
 ·have:f=c.fr.length:=by omega
  subst this;exact(au.GJ hp ha hb).symm
theorem ou{c:au}(hs:c.Shape)(f g:Int)(h0 : 0<=f)(h1:f<c.fr.length)(h2 : 0<=g)(h3:g<c.fr.length):aw Tryz.prog 92 [.v (.ptr c.cells),.v (.int .i64 f),.v (.int .i64 g)] (.int .i64 (c.ck f g)) :=
 Jw c f g h0 (by have:=hs.co;omega) h2 (by rw[hs.AW h0 h1];exact h3)
def BK:List Nat:=[0,2,3,4,5,6,7,8,9,10]
def J7:Sl:=ah Tryz.types Tryz.f213 BK []
theorem TA:aC Tryz.prog Tryz.f213 BK J7 1=true:=by decide +kernel
theorem XA(c:au)(hs:c.Shape):aw Tryz.prog 213 [.v (.ptr c.cells)] (fd c.l5):=by
 have hm:=hs.fr;have hml:c.fr.length<=maxLen:=by simp only[maxLen];omega
 have hto:=hs.to;have hco:=hs.co;refine aK Tryz.func213 TA ?_;unfold J7 ah BK;simp only[go_sem];refine an (AL c) rfl (.inl rfl) ?_;simp only[go_sem];refine aE [] (fun(f:Nat)=>[(6,.int .i64 f)]) (fun f=>f<=c.fr.length/\∀j,j<f->c.o9 j=false) (fun f=>c.fr.length-f) 0 (by simp only[go_sem];rfl) ⟨Nat.zero_le _,fun j hj=>by omega⟩ rfl ?_;rintro f ⟨hf,ha⟩;simp only[go_sem];refine⟨fun h=>?_,fun h=>?_⟩
 ·have e1:=hs.Gb h
  have e2:=hs.sM e1.1 e1.2;have e4:=hs.MS h;have e5:=hs.sM e4.1 e4.2;refine⟨h,e1,an (ou hs (c.iQ (c.fr.getD f 0)) f e2.1 e2.2 (by omega) (by omega)) rfl (.inl rfl) ?_⟩;simp only[go_sem];refine⟨fun h2=>⟨h2,by omega⟩,fun h2=>⟨h2,e4⟩,bu (fun h=>ou hs f (c.iQ (c.to.getD f 0)) (by omega) (by omega) e5.1 e5.2) rfl (fun h=>h) (.inl rfl) ?_⟩;simp only[go_sem];refine⟨fun h2=>by simpa only[Bool.not_eq_true'] using h2,fun h2=>?_,fun h2=>?_⟩
  ·rw[au.FZ ha h h2];rfl
  ·exact⟨f+1,⟨by omega,fun j hj=>by by_cases hjf:j<f;exact ha j hjf;rw[show j=f by omega];exact h2⟩,by omega,by rw[aL h hml]⟩
 have:f=c.fr.length:=by omega
 subst this;refine aE [8,9] (fun(f:Nat)=>[(7,.int .i64 f)]) (fun f=>f<=c.fr.length/\∀f' g' h',f'<f->g'<c.fr.length->h'<c.fr.length->c.eu f' g' h'=false) (fun f=>c.fr.length-f) 0 (by simp only[go_sem];rfl) ⟨Nat.zero_le _,fun _ _ _ hj=>by omega⟩ rfl ?_;rintro f ⟨hf,hb⟩;simp only[go_sem];refine⟨fun hfl=>?_,fun h=>?_⟩
 ·refine aE [9] (fun(g:Nat)=>[(8,.int .i64 g)]) (fun g=>g<=c.fr.length/\∀g' h',g'<g->h'<c.fr.length->c.eu f g' h'=false) (fun g=>c.fr.length-g) 0 (by simp only[go_sem];rfl) ⟨Nat.zero_le _,fun _ _ hj=>by omega⟩ rfl ?_
  rintro g ⟨hg,hc⟩;simp only[go_sem];refine⟨fun hgl=>?_,fun h=>?_⟩
  ·refine an (ou hs f g (by omega) (by omega) (by omega) (by omega)) rfl (.inl rfl) ?_
   simp only[go_sem];by_cases h2:c.to.getD f 0=c.fr.getD g 0
   ·have e1:=hs.qB hfl hgl h2
    refine⟨fun h3=>by omega,fun h3=>?_⟩;refine aE [] (fun(h:Nat)=>[(9,.int .i64 h)]) (fun h=>h<=c.fr.length/\∀h',h'<h->c.eu f g h'=false) (fun h=>c.fr.length-h) 0 (by simp only[go_sem];rfl) ⟨Nat.zero_le _,fun _ hj=>by omega⟩ rfl ?_;rintro h ⟨hh,hd⟩;simp only[go_sem];refine⟨fun hhl=>?_,fun h4=>?_⟩
    ·have hgh : 0<=c.ck g h->c.ck g h<c.fr.length/\c.to.getD g 0=c.fr.getD h 0:=fun h0=>by
      by_cases he:c.to.getD g 0=c.fr.getD h 0
      ·exact⟨(hs.qB hgl hhl he).2.1,he⟩
      ·rw[hs.E1 hgl hhl he] at h0;exact absurd h0 (by decide)
     have hgh2:c.to.getD g 0=c.fr.getD h 0->0<=c.ck g h:=fun he=>(hs.qB hgl hhl he).1
     have hd2:∀{x:Int},decide (0<=x)=true->0<=x:=fun h=>by simpa using h
     refine an (ou hs g h (by omega) (by omega) (by omega) (by omega)) rfl (.inl rfl) ?_;simp only[go_sem];refine bu (fun _=>ou hs f g (by omega) (by omega) (by omega) (by omega)) rfl (fun h=>h) (.inl rfl) ?_;simp only[go_sem];refine bu (fun _=>ou hs (c.ck f g) h e1.1 e1.2.1 (by omega) (by omega)) rfl (fun h=>h) (.inl rfl) ?_;simp only[go_sem];refine bu (fun _=>ou hs g h (by omega) (by omega) (by omega) (by omega)) rfl (fun h=>h) (.inl rfl) ?_;simp only[go_sem];refine bu (fun h5=>ou hs f (c.ck g h) (by omega) (by omega) (hd2 h5) (hgh (hd2 h5)).1) rfl (fun h=>h) (.inl rfl) ?_;simp only[go_sem]
     have hasf:c.eu f g h=(decide (0<=c.ck g h)&&c.ck (c.ck f g) h != c.ck f (c.ck g h)):=by
      rw[au.Eu h2];congr 1;rw[Bool.eq_iff_iff,beq_iff_eq,decide_eq_true_eq];exact⟨hgh2,fun h5=>(hgh h5).2⟩
     rw[<-hasf];refine⟨fun h5=>?_,fun h5=>?_⟩
     ·rw[au.FY ha hfl hgl hhl h5 hd hc hb];rfl
     ·exact⟨h+1,⟨by omega,nW hd h5⟩,by omega,by rw[aL hhl hml]⟩
    ·have:h=c.fr.length:=by omega
     subst this;exact⟨g+1,⟨by omega,fun g' h' hg' hh'=>nW (P:=fun g'=>c.eu f g' h'=false) (fun j hj=>hc j h' hj hh') (hd h' hh') g' hg'⟩,by omega,by rw[aL hgl hml]⟩
   ·refine⟨fun h3=>⟨g+1,⟨by omega,fun g' h' hg' hh'=>nW (P:=fun g'=>c.eu f g' h'=false) (fun j hj=>hc j h' hj hh') (au.Et h2) g' hg'⟩,by omega,by rw[aL hgl hml]⟩,fun h3=>?_⟩
    rw[hs.E1 hfl hgl h2] at h3;exact absurd h3 (by decide)
  ·have:g=c.fr.length:=by omega
   subst this;exact⟨f+1,⟨by omega,fun f' g' h' hf' hg' hh'=>nW (P:=fun f'=>c.eu f' g' h'=false) (fun j hj=>hb j g' h' hj hg' hh') (hc g' h' hg' hh') f' hf'⟩,by omega,by rw[aL hfl hml]⟩
 ·have:f=c.fr.length:=by omega
  subst this;rw[au.F3 ha hb];rfl
def BL:List Nat:=[0,2,3]
def J8:Sl:=ah Tryz.types Tryz.f186 BL []
theorem TB:aC Tryz.prog Tryz.f186 BL J8 1=true:=by decide +kernel
theorem XB(c:au):aw Tryz.prog 186 [.v (.ptr c.cells)] (.bool c.kr):=by
 refine aK Tryz.func186 TB ?_;unfold J8 ah BL;simp only[go_sem];refine an (XC c) rfl (.inl rfl) ?_;simp only[go_sem];refine⟨fun h=>?_,fun h=>?_⟩
 ·unfold au.kr;rw[Bool.not_eq_true'] at h;rw[h];rfl
 rw[Bool.not_eq_false'] at h;refine an (XA c (au.wP.1 h)) rfl (.inl rfl) ?_;simp only[fd];simp only[go_sem];unfold au.kr;rw[h];rfl
end Go.D3
