/- CONTRACTS: impl's shape. -/
import Derived.Test.YtaknpcdnmecblaaGAA
namespace Go.D3
open Go Proofs
set_option maxHeartbeats 4000000
set_option maxRecDepth 100000
def xY:List Nat:=[0,2,3,4,5,6,7,8,9,86,87,88,104,105,106,115,116,117]
def DP:Sl:=al Try.types Try.f32 xY []
theorem Ka:aX Try.prog Try.f32 xY DP 1=true:=by decide +kernel
theorem MT(c:Cat):aD Try.prog 32 [.v (.ptr c.cells)] (.bool c.ga):=by
 refine a7 Try.func32 Ka ?_;unfold DP al xY;simp only[go_sem];refine aC (sY c) rfl (.inl rfl) ?_;simp only[go_sem];refine aC (wV _ _ _) rfl (.inl rfl) ?_;simp only[go_sem]
 have iq:∀x:Bool,(fh c.ob 0 8&&x)=true->0<=c.ob:=fun x h=>by
  simp only[fh,Bool.and_eq_true,decide_eq_true_eq] at h;exact h.1.1
 refine⟨(fun h=>by simp only[Bool.not_eq_false'] at h|-;exact h),(fun h=>by simp only[Bool.or_eq_false_iff,Bool.and_eq_true,Bool.not_eq_true',Bool.not_eq_false'] at h|-;exact h),?_⟩;refine dx (fun h=>wX c.ob c.fr (iq _ (by rw[<-Bool.and_assoc];exact h))) rfl (fun h=>h) (.inl rfl) ?_;simp only[go_sem];refine⟨(fun h=>by simp only[Bool.or_eq_false_iff,Bool.and_eq_true,Bool.not_eq_true',Bool.not_eq_false'] at h|-;exact h),?_⟩;refine dx (fun h=>wX c.ob c.to (iq _ (by rw[<-Bool.and_assoc,<-Bool.and_assoc];exact h))) rfl (fun h=>h) (.inl rfl) ?_;simp only[go_sem];refine⟨(fun h=>by simp only[Bool.or_eq_false_iff,Bool.and_eq_true,Bool.not_eq_true',Bool.not_eq_false'] at h|-;exact h),fun h=>?_,fun h=>?_⟩
 ·symm;refine Cat.su fun hp=>?_
  have h1:fh c.ob 0 8=true:=by simp[fh,hp.iq,hp.jU]
  have h2:=hp.fr;simp[h1,hp.uY,hp.to,hp.xR] at h;omega
 refine dx (fun h=>wX c.fr.length c.aK (by omega)) rfl (fun h=>h) (.inl rfl) ?_;simp only[go_sem];refine⟨(fun h=>by simp only[Bool.not_eq_true'] at h|-;exact h),(fun h=>by simp only[Bool.or_eq_false_iff,Bool.and_eq_true,Bool.not_eq_true',Bool.not_eq_false'] at h|-;exact h),fun h2=>?_,fun h2=>?_⟩
 ·symm;refine Cat.su fun hp=>?_
  simp[hp.aK,hp.ve,hp.co] at h2
 have hp:c.Pre:=by
  simp only[Bool.or_eq_false_iff,Bool.not_eq_false',bne_eq_false_iff_eq,decide_eq_false_iff_not,fh,Bool.and_eq_true,decide_eq_true_eq] at h h2;obtain⟨⟨⟨⟨h1,h3⟩,h4⟩,h5⟩,h6⟩:=h;exact⟨h1.1,h1.2,by omega,h5,by omega,h6,by omega,h2.1.1,h2.1.2⟩
 clear h h2 iq;have hob:=hp.aK;have hm:=hp.fr;have hco:=hp.co;have hto:=hp.to;refine ba [3,4] (fun(x:Nat)=>[(11,.int .i64 x)]) (fun x=>x<=c.aK.length/\di x c.jH=true) (fun x=>c.aK.length-x) 0 (by simp only[go_sem];rfl) ⟨Nat.zero_le _,rfl⟩ rfl ?_;rintro x ⟨hx,ha⟩;simp only[go_sem];refine⟨fun hxl=>⟨hxl,?_⟩,fun h=>?_⟩
 ·have hid:=hp.idx hxl
  refine aC (Ds c _ hid.1 hid.2 (by omega)) rfl (.inl rfl) ?_;simp only[go_sem];refine⟨fun h=>?_,fun h=>⟨x+1,⟨by omega,nB ha (by rw[Bool.not_eq_false'] at h;exact h)⟩,by omega,by rw[aU hxl (by have:=hp.rL;simp only[maxLen];omega)]⟩⟩;exact(Cat.B9 hxl (by rw[Bool.not_eq_true'] at h;exact h)).symm
 have:x=c.aK.length:=by omega
 subst this;refine ba [5,6,7,8,15,16,17] (fun(f:Nat)=>[(14,.int .i64 f)]) (fun f=>f<=c.fr.length/\di f c.iz=true) (fun f=>c.fr.length-f) 0 (by simp only[go_sem];rfl) ⟨Nat.zero_le _,rfl⟩ rfl ?_;rintro f ⟨hf,hb⟩;simp only[go_sem];refine⟨fun hfl'=>⟨hfl',fun h=>?_,fun h=>?_⟩,fun h=>?_⟩
 ·exact(Cat.vH (f:=f) (by omega) (by simp only[Cat.iz];rw[Bool.and_eq_false_iff];left;rw[bne_iff_ne] at h;simpa using h)).symm
 ·rw[bne_eq_false_iff_eq] at h
  have hrow:(c.co.getD f []).length=c.fr.length:=by omega
  refine ba [7,8] (fun(g:Nat)=>[(17,.int .i64 g)]) (fun g=>g<=c.fr.length/\di g (c.fQ f)=true) (fun g=>c.fr.length-g) 0 (by simp only[go_sem];rfl) ⟨Nat.zero_le _,rfl⟩ rfl ?_;rintro g ⟨hg,hc⟩;simp only[go_sem]
  have hcb:c.fQ f g=if c.to.getD f 0 != c.fr.getD g 0 then(c.co.getD f []).getD g 0 == -1
   else decide (0<=(c.co.getD f []).getD g 0)&&decide ((c.co.getD f []).getD g 0<c.fr.length)&&(c.fr.getD ((c.co.getD f []).getD g 0).toNat 0 == c.fr.getD f 0)&&(c.to.getD ((c.co.getD f []).getD g 0).toNat 0 == c.to.getD g 0):=rfl
  generalize(c.co.getD f []).getD g 0=h at hcb;have hfl:f<c.fr.length:=by omega
  refine⟨fun hgl'=>?_,fun hgl=>?_⟩
  ·have hgl:g<c.fr.length:=by omega
   have step:c.fQ f g=true->∃x',(x'<=c.fr.length/\di x' (c.fQ f)=true)/\c.fr.length-x'<c.fr.length-g/\IntKind.i64.wrap ((g:Int)+1)=(x':Int):=fun hh=>⟨g+1,⟨by omega,nB hc hh⟩,by omega,aU hgl (by simp only[maxLen];omega)⟩
   refine⟨hgl',by omega,hgl,fun h3=>⟨fun h4=>?_,fun h4=>?_⟩,fun h3=>?_⟩
   ·exact(Cat.ss hfl hgl (by rw[hcb,if_pos h3];simpa using h4)).symm
   ·obtain⟨x',e1,e2,e3⟩:=step (by rw[hcb,if_pos h3];simpa using h4)
    exact⟨x',e1,e2,by rw[e3]⟩
   ·rw[hcb,if_neg (by rw[h3];decide)] at step
    have nc:∀b:Bool,(decide (0<=h)&&decide (h<c.fr.length)&&(c.fr.getD h.toNat 0 == c.fr.getD f 0)&&(c.to.getD h.toNat 0 == c.to.getD g 0))=b->c.fQ f g=b:=fun b hb=>by rw[hcb,if_neg (by rw[h3];decide)];exact hb
    refine aC (wV _ _ _) rfl (.inl rfl) ?_;simp only[go_sem];rw[Be (by omega) (by omega)];have hr:(decide (0<=h)&&decide (h<(c.fr.length:Int)))=true->0<=h/\h<c.fr.length:=fun h=>by simpa using h
    refine dx (fun h4=>Ds c h (hr h4).1 (hr h4).2 (by have:=(hr h4).2;omega)) rfl (fun h=>h) (.inl rfl) ?_;simp only[go_sem];refine⟨fun h4=>⟨h4,hfl⟩,fun h4=>⟨h4,by omega⟩,fun h4=>by rw[Bool.not_eq_false'] at h4;exact h4,fun h4=>?_,fun h4=>?_⟩
    ·refine(Cat.ss hfl hgl (nc _ ?_)).symm
     rw[<-Bool.not_and,Bool.not_eq_true',<-Bool.and_assoc] at h4;exact h4
    ·rw[<-Bool.not_and,Bool.not_eq_false',<-Bool.and_assoc] at h4
     obtain⟨x',e1,e2,e3⟩:=step h4;exact⟨x',e1,e2,by rw[e3]⟩
  ·have:g=c.fr.length:=by omega
   subst this;refine⟨f+1,⟨by omega,nB hb (by simp only[Cat.iz];rw[hc,hrow];simp)⟩,by omega,by rw[aU hfl (by simp only[maxLen];omega)]⟩
 ·have:f=c.fr.length:=by omega
  subst this;exact(Cat.Bl hp ha hb).symm
end Go.D3
