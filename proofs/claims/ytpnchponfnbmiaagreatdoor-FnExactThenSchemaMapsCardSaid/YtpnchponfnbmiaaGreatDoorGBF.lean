/- CONTRACTS: categories, the program's side: shape, faults. -/
import Derived.Test.YtpnchponfnbmiaaGreatDoorGAD
import Derived.Test.YtpnchponfnbmiaaGreatDoorHG
namespace Go.D3
open Go
set_option maxHeartbeats 4000000
set_option maxRecDepth 100000
def zP:List Nat:=[0,2]
def Hs:Sl:=ae Go.Proofs.Tryz.types Go.Proofs.Tryz.f185 zP []
theorem Pm:aD Go.Proofs.Tryz.prog Go.Proofs.Tryz.f185 zP Hs 1=true:=by decide +kernel
theorem yJ(c:ak):al Go.Proofs.Tryz.prog 185 [.v (.ptr c.cells)] (.int .i64 c.fr.length):=by
 refine aC Go.Proofs.Tryz.func185 Pm ?_;unfold Hs ae zP;simp only[go_sem]
def zQ:List Nat:=[0,1,4]
def Ht:Sl:=ae Go.Proofs.Tryz.types Go.Proofs.Tryz.f240 zQ []
theorem Pn:aD Go.Proofs.Tryz.prog Go.Proofs.Tryz.f240 zQ Ht 2=true:=by decide +kernel
theorem GH(c:ak)(f:Int)(h0 : 0<=f)(h1:f<c.fr.length)(h2:f<c.to.length):al Go.Proofs.Tryz.prog 240 [.v (.ptr c.cells),.v (.int .i64 f)] (.agg [.int .i64 (c.fr.getD f.toNat 0),.int .i64 (c.to.getD f.toNat 0)]):=by
 refine aC Go.Proofs.Tryz.func240 Pn ?_;unfold Ht ae zQ;simp only[go_sem];exact⟨⟨h0,h1⟩,h0,h2⟩
def zV:List Nat:=[0,1,2,6]
def Hy:Sl:=ae Go.Proofs.Tryz.types Go.Proofs.Tryz.f92 zV []
theorem Ps:aD Go.Proofs.Tryz.prog Go.Proofs.Tryz.f92 zV Hy 3=true:=by decide +kernel
theorem yK(c:ak)(f g:Int)(h0 : 0<=f)(h1:f<c.co.length)(h2 : 0<=g)(h3:g<(c.co.getD f.toNat []).length):al Go.Proofs.Tryz.prog 92 [.v (.ptr c.cells),.v (.int .i64 f),.v (.int .i64 g)] (.int .i64 ((c.co.getD f.toNat []).getD g.toNat 0)):=by
 refine aC Go.Proofs.Tryz.func92 Ps ?_;unfold Hy ae zV;simp only[go_sem];exact⟨⟨h0,h1⟩,h2,h3⟩
def zT:List Nat:=[0,2,3,4,5,6,7,8,9,86,87,88,104,105,106,115,116,117]
def Hw:Sl:=ae Go.Proofs.Tryz.types Go.Proofs.Tryz.f212 zT []
theorem Pq:aD Go.Proofs.Tryz.prog Go.Proofs.Tryz.f212 zT Hw 1=true:=by decide +kernel
theorem S7(c:ak):al Go.Proofs.Tryz.prog 212 [.v (.ptr c.cells)] (.bool c.gR):=by
 refine aC Go.Proofs.Tryz.func212 Pq ?_;unfold Hw ae zT;simp only[go_sem];refine af (yJ c) rfl (.inl rfl) ?_;simp only[go_sem];refine af (qa _ _ _) rfl (.inl rfl) ?_;simp only[go_sem]
 have pO:∀x:Bool,(bq c.ob 0 8&&x)=true->0<=c.ob:=fun x h=>by
  simp only[bq,Bool.and_eq_true,decide_eq_true_eq] at h;exact h.1.1
 refine⟨(fun h=>by simp only[Bool.not_eq_false'] at h|-;exact h),(fun h=>by simp only[Bool.or_eq_false_iff,Bool.and_eq_true,Bool.not_eq_true',Bool.not_eq_false'] at h|-;exact h),?_⟩;refine bt (fun h=>qc c.ob c.fr (pO _ (by rw[<-Bool.and_assoc];exact h))) rfl (fun h=>h) (.inl rfl) ?_;simp only[go_sem];refine⟨(fun h=>by simp only[Bool.or_eq_false_iff,Bool.and_eq_true,Bool.not_eq_true',Bool.not_eq_false'] at h|-;exact h),?_⟩;refine bt (fun h=>qc c.ob c.to (pO _ (by rw[<-Bool.and_assoc,<-Bool.and_assoc];exact h))) rfl (fun h=>h) (.inl rfl) ?_;simp only[go_sem];refine⟨(fun h=>by simp only[Bool.or_eq_false_iff,Bool.and_eq_true,Bool.not_eq_true',Bool.not_eq_false'] at h|-;exact h),fun h=>?_,fun h=>?_⟩
 ·symm;refine ak.tY fun hp=>?_
  have h1:bq c.ob 0 8=true:=by simp[bq,hp.pO,hp.xE]
  have h2:=hp.fr;simp[h1,hp.wP,hp.to,hp.zO] at h;omega
 refine bt (fun h=>qc c.fr.length c.aN (by omega)) rfl (fun h=>h) (.inl rfl) ?_;simp only[go_sem];refine⟨(fun h=>by simp only[Bool.not_eq_true'] at h|-;exact h),(fun h=>by simp only[Bool.or_eq_false_iff,Bool.and_eq_true,Bool.not_eq_true',Bool.not_eq_false'] at h|-;exact h),fun h2=>?_,fun h2=>?_⟩
 ·symm;refine ak.tY fun hp=>?_
  simp[hp.aN,hp.wV,hp.co] at h2
 have hp:c.Pre:=by
  simp only[Bool.or_eq_false_iff,Bool.not_eq_false',bne_eq_false_iff_eq,decide_eq_false_iff_not,bq,Bool.and_eq_true,decide_eq_true_eq] at h h2;obtain⟨⟨⟨⟨h1,h3⟩,h4⟩,h5⟩,h6⟩:=h;exact⟨h1.1,h1.2,by omega,h5,by omega,h6,by omega,h2.1.1,h2.1.2⟩
 clear h h2 pO;have hob:=hp.aN;have hm:=hp.fr;have hco:=hp.co;have hto:=hp.to;refine aJ [3,4] (fun(x:Nat)=>[(11,.int .i64 x)]) (fun x=>x<=c.aN.length/\cm x c.jr=true) (fun x=>c.aN.length-x) 0 (by simp only[go_sem];rfl) ⟨Nat.zero_le _,rfl⟩ rfl ?_;rintro x ⟨hx,ha⟩;simp only[go_sem];refine⟨fun hxl=>⟨hxl,?_⟩,fun h=>?_⟩
 ·have hid:=hp.idx hxl
  refine af (GH c _ hid.1 hid.2 (by omega)) rfl (.inl rfl) ?_;simp only[go_sem];refine⟨fun h=>?_,fun h=>⟨x+1,⟨by omega,jP ha (by rw[Bool.not_eq_false'] at h;exact h)⟩,by omega,by rw[aH hxl (by have:=hp.iO;simp only[maxLen];omega)]⟩⟩;exact(ak.E1 hxl (by rw[Bool.not_eq_true'] at h;exact h)).symm
 have:x=c.aN.length:=by omega
 subst this;refine aJ [5,6,7,8,15,16,17] (fun(f:Nat)=>[(14,.int .i64 f)]) (fun f=>f<=c.fr.length/\cm f c.jG=true) (fun f=>c.fr.length-f) 0 (by simp only[go_sem];rfl) ⟨Nat.zero_le _,rfl⟩ rfl ?_;rintro f ⟨hf,hb⟩;simp only[go_sem];refine⟨fun hfl'=>⟨hfl',fun h=>?_,fun h=>?_⟩,fun h=>?_⟩
 ·exact(ak.xB (f:=f) (by omega) (by simp only[ak.jG];rw[Bool.and_eq_false_iff];left;rw[bne_iff_ne] at h;simpa using h)).symm
 ·rw[bne_eq_false_iff_eq] at h
  have hrow:(c.co.getD f []).length=c.fr.length:=by omega
  refine aJ [7,8] (fun(g:Nat)=>[(17,.int .i64 g)]) (fun g=>g<=c.fr.length/\cm g (c.gG f)=true) (fun g=>c.fr.length-g) 0 (by simp only[go_sem];rfl) ⟨Nat.zero_le _,rfl⟩ rfl ?_;rintro g ⟨hg,hc⟩;simp only[go_sem]
  have hcb:c.gG f g=if c.to.getD f 0 != c.fr.getD g 0 then(c.co.getD f []).getD g 0 == -1
   else decide (0<=(c.co.getD f []).getD g 0)&&decide ((c.co.getD f []).getD g 0<c.fr.length)&&(c.fr.getD ((c.co.getD f []).getD g 0).toNat 0 == c.fr.getD f 0)&&(c.to.getD ((c.co.getD f []).getD g 0).toNat 0 == c.to.getD g 0):=rfl
  generalize(c.co.getD f []).getD g 0=h at hcb;have hfl:f<c.fr.length:=by omega
  refine⟨fun hgl'=>?_,fun hgl=>?_⟩
  ·have hgl:g<c.fr.length:=by omega
   have step:c.gG f g=true->∃x',(x'<=c.fr.length/\cm x' (c.gG f)=true)/\c.fr.length-x'<c.fr.length-g/\IntKind.i64.wrap ((g:Int)+1)=(x':Int):=fun hh=>⟨g+1,⟨by omega,jP hc hh⟩,by omega,aH hgl (by simp only[maxLen];omega)⟩
   refine⟨hgl',by omega,hgl,fun h3=>⟨fun h4=>?_,fun h4=>?_⟩,fun h3=>?_⟩
   ·exact(ak.tW hfl hgl (by rw[hcb,if_pos h3];simpa using h4)).symm
   ·obtain⟨x',e1,e2,e3⟩:=step (by rw[hcb,if_pos h3];simpa using h4)
    exact⟨x',e1,e2,by rw[e3]⟩
   ·rw[hcb,if_neg (by rw[h3];decide)] at step
    have nc:∀b:Bool,(decide (0<=h)&&decide (h<c.fr.length)&&(c.fr.getD h.toNat 0 == c.fr.getD f 0)&&(c.to.getD h.toNat 0 == c.to.getD g 0))=b->c.gG f g=b:=fun b hb=>by rw[hcb,if_neg (by rw[h3];decide)];exact hb
    refine af (qa _ _ _) rfl (.inl rfl) ?_;simp only[go_sem];rw[DX (by omega) (by omega)];have hr:(decide (0<=h)&&decide (h<(c.fr.length:Int)))=true->0<=h/\h<c.fr.length:=fun h=>by simpa using h
    refine bt (fun h4=>GH c h (hr h4).1 (hr h4).2 (by have:=(hr h4).2;omega)) rfl (fun h=>h) (.inl rfl) ?_;simp only[go_sem];refine⟨fun h4=>⟨h4,hfl⟩,fun h4=>⟨h4,by omega⟩,fun h4=>by rw[Bool.not_eq_false'] at h4;exact h4,fun h4=>?_,fun h4=>?_⟩
    ·refine(ak.tW hfl hgl (nc _ ?_)).symm
     rw[<-Bool.not_and,Bool.not_eq_true',<-Bool.and_assoc] at h4;exact h4
    ·rw[<-Bool.not_and,Bool.not_eq_false',<-Bool.and_assoc] at h4
     obtain⟨x',e1,e2,e3⟩:=step h4;exact⟨x',e1,e2,by rw[e3]⟩
  ·have:g=c.fr.length:=by omega
   subst this;refine⟨f+1,⟨by omega,jP hb (by simp only[ak.jG];rw[hc,hrow];simp)⟩,by omega,by rw[aH hfl (by simp only[maxLen];omega)]⟩
 ·have:f=c.fr.length:=by omega
  subst this;exact(ak.D4 hp ha hb).symm
theorem mG{c:ak}(hs:c.Shape)(f g:Int)(h0 : 0<=f)(h1:f<c.fr.length)(h2 : 0<=g)(h3:g<c.fr.length):al Go.Proofs.Tryz.prog 92 [.v (.ptr c.cells),.v (.int .i64 f),.v (.int .i64 g)] (.int .i64 (c.bI f g)) :=
 yK c f g h0 (by have:=hs.co;omega) h2 (by rw[hs.y4 h0 h1];exact h3)
def zR:List Nat:=[0,2,3,4,5,6,7,8,9,10]
def Hu:Sl:=ae Go.Proofs.Tryz.types Go.Proofs.Tryz.f213 zR []
theorem Po:aD Go.Proofs.Tryz.prog Go.Proofs.Tryz.f213 zR Hu 1=true:=by decide +kernel
theorem S5(c:ak)(hs:c.Shape):al Go.Proofs.Tryz.prog 213 [.v (.ptr c.cells)] (fd c.kI):=by
 have hm:=hs.fr;have hml:c.fr.length<=maxLen:=by simp only[maxLen];omega
 have hto:=hs.to;have hco:=hs.co;refine aC Go.Proofs.Tryz.func213 Po ?_;unfold Hu ae zR;simp only[go_sem];refine af (yJ c) rfl (.inl rfl) ?_;simp only[go_sem];refine aJ [] (fun(f:Nat)=>[(6,.int .i64 f)]) (fun f=>f<=c.fr.length/\∀j,j<f->c.nG j=false) (fun f=>c.fr.length-f) 0 (by simp only[go_sem];rfl) ⟨Nat.zero_le _,fun j hj=>by omega⟩ rfl ?_;rintro f ⟨hf,ha⟩;simp only[go_sem];refine⟨fun h=>?_,fun h=>?_⟩
 ·have e1:=hs.DE h
  have e2:=hs.pt e1.1 e1.2;have e4:=hs.JR h;have e5:=hs.pt e4.1 e4.2;refine⟨h,e1,af (mG hs (c.gi (c.fr.getD f 0)) f e2.1 e2.2 (by omega) (by omega)) rfl (.inl rfl) ?_⟩;simp only[go_sem];refine⟨fun h2=>⟨h2,by omega⟩,fun h2=>⟨h2,e4⟩,bt (fun h=>mG hs f (c.gi (c.to.getD f 0)) (by omega) (by omega) e5.1 e5.2) rfl (fun h=>h) (.inl rfl) ?_⟩;simp only[go_sem];refine⟨fun h2=>by simpa only[Bool.not_eq_true'] using h2,fun h2=>?_,fun h2=>?_⟩
  ·rw[ak.Dv ha h h2];rfl
  ·exact⟨f+1,⟨by omega,fun j hj=>by by_cases hjf:j<f;exact ha j hjf;rw[show j=f by omega];exact h2⟩,by omega,by rw[aH h hml]⟩
 have:f=c.fr.length:=by omega
 subst this;refine aJ [8,9] (fun(f:Nat)=>[(7,.int .i64 f)]) (fun f=>f<=c.fr.length/\∀f' g' h',f'<f->g'<c.fr.length->h'<c.fr.length->c.dy f' g' h'=false) (fun f=>c.fr.length-f) 0 (by simp only[go_sem];rfl) ⟨Nat.zero_le _,fun _ _ _ hj=>by omega⟩ rfl ?_;rintro f ⟨hf,hb⟩;simp only[go_sem];refine⟨fun hfl=>?_,fun h=>?_⟩
 ·refine aJ [9] (fun(g:Nat)=>[(8,.int .i64 g)]) (fun g=>g<=c.fr.length/\∀g' h',g'<g->h'<c.fr.length->c.dy f g' h'=false) (fun g=>c.fr.length-g) 0 (by simp only[go_sem];rfl) ⟨Nat.zero_le _,fun _ _ hj=>by omega⟩ rfl ?_
  rintro g ⟨hg,hc⟩;simp only[go_sem];refine⟨fun hgl=>?_,fun h=>?_⟩
  ·refine af (mG hs f g (by omega) (by omega) (by omega) (by omega)) rfl (.inl rfl) ?_
   simp only[go_sem];by_cases h2:c.to.getD f 0=c.fr.getD g 0
   ·have e1:=hs.lU hfl hgl h2
    refine⟨fun h3=>by omega,fun h3=>?_⟩;refine aJ [] (fun(h:Nat)=>[(9,.int .i64 h)]) (fun h=>h<=c.fr.length/\∀h',h'<h->c.dy f g h'=false) (fun h=>c.fr.length-h) 0 (by simp only[go_sem];rfl) ⟨Nat.zero_le _,fun _ hj=>by omega⟩ rfl ?_;rintro h ⟨hh,hd⟩;simp only[go_sem];refine⟨fun hhl=>?_,fun h4=>?_⟩
    ·have hgh : 0<=c.bI g h->c.bI g h<c.fr.length/\c.to.getD g 0=c.fr.getD h 0:=fun h0=>by
      by_cases he:c.to.getD g 0=c.fr.getD h 0
      ·exact⟨(hs.lU hgl hhl he).2.1,he⟩
      ·rw[hs.CL hgl hhl he] at h0;exact absurd h0 (by decide)
     have hgh2:c.to.getD g 0=c.fr.getD h 0->0<=c.bI g h:=fun he=>(hs.lU hgl hhl he).1
     have hd2:∀{x:Int},decide (0<=x)=true->0<=x:=fun h=>by simpa using h
     refine af (mG hs g h (by omega) (by omega) (by omega) (by omega)) rfl (.inl rfl) ?_;simp only[go_sem];refine bt (fun _=>mG hs f g (by omega) (by omega) (by omega) (by omega)) rfl (fun h=>h) (.inl rfl) ?_;simp only[go_sem];refine bt (fun _=>mG hs (c.bI f g) h e1.1 e1.2.1 (by omega) (by omega)) rfl (fun h=>h) (.inl rfl) ?_;simp only[go_sem];refine bt (fun _=>mG hs g h (by omega) (by omega) (by omega) (by omega)) rfl (fun h=>h) (.inl rfl) ?_;simp only[go_sem];refine bt (fun h5=>mG hs f (c.bI g h) (by omega) (by omega) (hd2 h5) (hgh (hd2 h5)).1) rfl (fun h=>h) (.inl rfl) ?_;simp only[go_sem]
     have hasf:c.dy f g h=(decide (0<=c.bI g h)&&c.bI (c.bI f g) h != c.bI f (c.bI g h)):=by
      rw[ak.Ch h2];congr 1;rw[Bool.eq_iff_iff,beq_iff_eq,decide_eq_true_eq];exact⟨hgh2,fun h5=>(hgh h5).2⟩
     rw[<-hasf];refine⟨fun h5=>?_,fun h5=>?_⟩
     ·rw[ak.Du ha hfl hgl hhl h5 hd hc hb];rfl
     ·exact⟨h+1,⟨by omega,mj hd h5⟩,by omega,by rw[aH hhl hml]⟩
    ·have:h=c.fr.length:=by omega
     subst this;exact⟨g+1,⟨by omega,fun g' h' hg' hh'=>mj (P:=fun g'=>c.dy f g' h'=false) (fun j hj=>hc j h' hj hh') (hd h' hh') g' hg'⟩,by omega,by rw[aH hgl hml]⟩
   ·refine⟨fun h3=>⟨g+1,⟨by omega,fun g' h' hg' hh'=>mj (P:=fun g'=>c.dy f g' h'=false) (fun j hj=>hc j h' hj hh') (ak.Cg h2) g' hg'⟩,by omega,by rw[aH hgl hml]⟩,fun h3=>?_⟩
    rw[hs.CL hfl hgl h2] at h3;exact absurd h3 (by decide)
  ·have:g=c.fr.length:=by omega
   subst this;exact⟨f+1,⟨by omega,fun f' g' h' hf' hg' hh'=>mj (P:=fun f'=>c.dy f' g' h'=false) (fun j hj=>hb j g' h' hj hg' hh') (hc g' h' hg' hh') f' hf'⟩,by omega,by rw[aH hfl hml]⟩
 ·have:f=c.fr.length:=by omega
  subst this;rw[ak.Dw ha hb];rfl
def zS:List Nat:=[0,2,3]
def Hv:Sl:=ae Go.Proofs.Tryz.types Go.Proofs.Tryz.f186 zS []
theorem Pp:aD Go.Proofs.Tryz.prog Go.Proofs.Tryz.f186 zS Hv 1=true:=by decide +kernel
theorem S6(c:ak):al Go.Proofs.Tryz.prog 186 [.v (.ptr c.cells)] (.bool c.jv):=by
 refine aC Go.Proofs.Tryz.func186 Pp ?_;unfold Hv ae zS;simp only[go_sem];refine af (S7 c) rfl (.inl rfl) ?_;simp only[go_sem];refine⟨fun h=>?_,fun h=>?_⟩
 ·unfold ak.jv;rw[Bool.not_eq_true'] at h;rw[h];rfl
 rw[Bool.not_eq_false'] at h;refine af (S5 c (ak.uV.1 h)) rfl (.inl rfl) ?_;simp only[fd];simp only[go_sem];unfold ak.jv;rw[h];rfl
end Go.D3
