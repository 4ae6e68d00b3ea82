/- CONTRACTS: categories, the program's side: shape, faults. -/
import Derived.Test.YtaknpcdnmecblaaGreatDoorGAA
import Derived.Test.YtaknpcdnmecblaaGreatDoorHG
namespace Go.D3
open Go Proofs
set_option maxHeartbeats 4000000
set_option maxRecDepth 100000
def BX:List Nat:=[0,2]
def JY:Sl:=ah Tryz.types Tryz.f183 BX []
theorem TD:aE Tryz.prog Tryz.f183 BX JY 1=true:=by decide +kernel
theorem w5(c:af):aA Tryz.prog 183 [.v (.ptr c.cells)] (.int .i64 c.fr.length):=by
 refine aQ Tryz.func183 TD ?_;unfold JY ah BX;simp only[go_sem]
def BZ:List Nat:=[0,1,4]
def J0:Sl:=ah Tryz.types Tryz.f263 BZ []
theorem TF:aE Tryz.prog Tryz.f263 BZ J0 2=true:=by decide +kernel
theorem Jp(c:af)(f:Int)(I : 0<=f)(h1:f<c.fr.length)(S:f<c.to.length):aA Tryz.prog 263 [.v (.ptr c.cells),.v (.int .i64 f)] (.agg [.int .i64 (c.fr.getD f.toNat 0),.int .i64 (c.to.getD f.toNat 0)]):=by
 refine aQ Tryz.func263 TF ?_;unfold J0 ah BZ;simp only[go_sem];exact⟨⟨I,h1⟩,I,S⟩
def B4:List Nat:=[0,1,2,6]
def J5:Sl:=ah Tryz.types Tryz.f116 B4 []
theorem TK:aE Tryz.prog Tryz.f116 B4 J5 3=true:=by decide +kernel
theorem Jr(c:af)(f g:Int)(I : 0<=f)(h1:f<c.co.length)(S : 0<=g)(V:g<(c.co.getD f.toNat []).length):aA Tryz.prog 116 [.v (.ptr c.cells),.v (.int .i64 f),.v (.int .i64 g)] (.int .i64 ((c.co.getD f.toNat []).getD g.toNat 0)):=by
 refine aQ Tryz.func116 TK ?_;unfold J5 ah B4;simp only[go_sem];exact⟨⟨I,h1⟩,S,V⟩
def B2:List Nat:=[0,2,3,4,5,6,7,8,9,86,87,88,104,105,106,115,116,117]
def J3:Sl:=ah Tryz.types Tryz.f239 B2 []
theorem TI:aE Tryz.prog Tryz.f239 B2 J3 1=true:=by decide +kernel
theorem X3(c:af):aA Tryz.prog 239 [.v (.ptr c.cells)] (.bool c.dN):=by
 refine aQ Tryz.func239 TI ?_;unfold J3 ah B2;simp only[go_sem];refine aj (w5 c) rfl (.inl rfl) ?_;simp only[go_sem];refine aj (sr _ _ _) rfl (.inl rfl) ?_;simp only[go_sem]
 have cZ:∀x:Bool,(bq c.ob 0 8&&x)=true->0<=c.ob:=fun x h=>by
  simp only[bq,Bool.and_eq_true,decide_eq_true_eq] at h;exact h.1.1
 refine⟨(fun h=>by simp only[Bool.not_eq_false'] at h|-;exact h),(fun h=>by simp only[Bool.or_eq_false_iff,Bool.and_eq_true,Bool.not_eq_true',Bool.not_eq_false'] at h|-;exact h),?_⟩;refine bf (fun h=>oN c.ob c.fr (cZ _ (by rw[<-Bool.and_assoc];exact h))) rfl (fun h=>h) (.inl rfl) ?_;simp only[go_sem];refine⟨(fun h=>by simp only[Bool.or_eq_false_iff,Bool.and_eq_true,Bool.not_eq_true',Bool.not_eq_false'] at h|-;exact h),?_⟩;refine bf (fun h=>oN c.ob c.to (cZ _ (by rw[<-Bool.and_assoc,<-Bool.and_assoc];exact h))) rfl (fun h=>h) (.inl rfl) ?_;simp only[go_sem];refine⟨(fun h=>by simp only[Bool.or_eq_false_iff,Bool.and_eq_true,Bool.not_eq_true',Bool.not_eq_false'] at h|-;exact h),fun h=>?_,fun h=>?_⟩
 ·symm;refine af.wD fun hp=>?_
  have h1:bq c.ob 0 8=true:=by simp[bq,hp.cZ,hp.ox]
  have h2:=hp.fr;simp[h1,hp.rz,hp.to,hp.xy] at h;omega
 refine bf (fun h=>oN c.fr.length c.an (by omega)) rfl (fun h=>h) (.inl rfl) ?_;simp only[go_sem];refine⟨(fun h=>by simp only[Bool.not_eq_true'] at h|-;exact h),(fun h=>by simp only[Bool.or_eq_false_iff,Bool.and_eq_true,Bool.not_eq_true',Bool.not_eq_false'] at h|-;exact h),fun h2=>?_,fun h2=>?_⟩
 ·symm;refine af.wD fun hp=>?_
  simp[hp.an,hp.zj,hp.co] at h2
 have hp:c.Pre:=by
  simp only[Bool.or_eq_false_iff,Bool.not_eq_false',bne_eq_false_iff_eq,decide_eq_false_iff_not,bq,Bool.and_eq_true,decide_eq_true_eq] at h h2;obtain⟨⟨⟨⟨h1,h3⟩,I⟩,h5⟩,h6⟩:=h;exact⟨h1.1,h1.2,by omega,h5,by omega,h6,by omega,h2.1.1,h2.1.2⟩
 clear h h2 cZ;have ax:=hp.an;have hm:=hp.fr;have ao:=hp.co;have a1:=hp.to;refine au [3,4] (fun(x:Nat)=>[(11,.int .i64 x)]) (fun x=>x<=c.an.length/\cS x c.jS=true) (fun x=>c.an.length-x) 0 (by simp only[go_sem];rfl) ⟨Nat.zero_le _,rfl⟩ rfl ?_;rintro x ⟨hx,ha⟩;simp only[go_sem];refine⟨fun Y=>⟨Y,?_⟩,fun h=>?_⟩
 ·have hid:=hp.idx Y
  refine aj (Jp c _ hid.1 hid.2 (by omega)) rfl (.inl rfl) ?_;simp only[go_sem];refine⟨fun h=>?_,fun h=>⟨x+1,⟨by omega,pj ha (by rw[Bool.not_eq_false'] at h;exact h)⟩,by omega,by rw[aw Y (by have:=hp.cP;simp only[maxLen];omega)]⟩⟩;exact(af.HS Y (by rw[Bool.not_eq_true'] at h;exact h)).symm
 have:x=c.an.length:=by omega
 subst this;refine au [5,6,7,8,15,16,17] (fun(f:Nat)=>[(14,.int .i64 f)]) (fun f=>f<=c.fr.length/\cS f c.kZ=true) (fun f=>c.fr.length-f) 0 (by simp only[go_sem];rfl) ⟨Nat.zero_le _,rfl⟩ rfl ?_;rintro f ⟨hf,hb⟩;simp only[go_sem];refine⟨fun ab=>⟨ab,fun h=>?_,fun h=>?_⟩,fun h=>?_⟩
 ·exact(af.zW (f:=f) (by omega) (by simp only[af.kZ];rw[Bool.and_eq_false_iff];left;rw[bne_iff_ne] at h;simpa using h)).symm
 ·rw[bne_eq_false_iff_eq] at h
  have ag:(c.co.getD f []).length=c.fr.length:=by omega
  refine au [7,8] (fun(g:Nat)=>[(17,.int .i64 g)]) (fun g=>g<=c.fr.length/\cS g (c.gL f)=true) (fun g=>c.fr.length-g) 0 (by simp only[go_sem];rfl) ⟨Nat.zero_le _,rfl⟩ rfl ?_;rintro g ⟨hg,hc⟩;simp only[go_sem]
  have S:c.gL f g=if c.to.getD f 0 != c.fr.getD g 0 then(c.co.getD f []).getD g 0 == -1
   else decide (0<=(c.co.getD f []).getD g 0)&&decide ((c.co.getD f []).getD g 0<c.fr.length)&&(c.fr.getD ((c.co.getD f []).getD g 0).toNat 0 == c.fr.getD f 0)&&(c.to.getD ((c.co.getD f []).getD g 0).toNat 0 == c.to.getD g 0):=rfl
  generalize(c.co.getD f []).getD g 0=h at S;have W:f<c.fr.length:=by omega
  refine⟨fun ad=>?_,fun V=>?_⟩
  ·have V:g<c.fr.length:=by omega
   have step:c.gL f g=true->∃Z,(Z<=c.fr.length/\cS Z (c.gL f)=true)/\c.fr.length-Z<c.fr.length-g/\IntKind.i64.wrap ((g:Int)+1)=(Z:Int):=fun hh=>⟨g+1,⟨by omega,pj hc hh⟩,by omega,aw V (by simp only[maxLen];omega)⟩
   refine⟨ad,by omega,V,fun h3=>⟨fun I=>?_,fun I=>?_⟩,fun h3=>?_⟩
   ·exact(af.wC W V (by rw[S,if_pos h3];simpa using I)).symm
   ·obtain⟨Z,e1,e2,e3⟩:=step (by rw[S,if_pos h3];simpa using I)
    exact⟨Z,e1,e2,by rw[e3]⟩
   ·rw[S,if_neg (by rw[h3];decide)] at step
    have nc:∀b:Bool,(decide (0<=h)&&decide (h<c.fr.length)&&(c.fr.getD h.toNat 0 == c.fr.getD f 0)&&(c.to.getD h.toNat 0 == c.to.getD g 0))=b->c.gL f g=b:=fun b hb=>by rw[S,if_neg (by rw[h3];decide)];exact hb
    refine aj (sr _ _ _) rfl (.inl rfl) ?_;simp only[go_sem];rw[GJ (by omega) (by omega)];have hr:(decide (0<=h)&&decide (h<(c.fr.length:Int)))=true->0<=h/\h<c.fr.length:=fun h=>by simpa using h
    refine bf (fun I=>Jp c h (hr I).1 (hr I).2 (by have:=(hr I).2;omega)) rfl (fun h=>h) (.inl rfl) ?_;simp only[go_sem];refine⟨fun I=>⟨I,W⟩,fun I=>⟨I,by omega⟩,fun I=>by rw[Bool.not_eq_false'] at I;exact I,fun I=>?_,fun I=>?_⟩
    ·refine(af.wC W V (nc _ ?_)).symm
     rw[<-Bool.not_and,Bool.not_eq_true',<-Bool.and_assoc] at I;exact I
    ·rw[<-Bool.not_and,Bool.not_eq_false',<-Bool.and_assoc] at I
     obtain⟨Z,e1,e2,e3⟩:=step I;exact⟨Z,e1,e2,by rw[e3]⟩
  ·have:g=c.fr.length:=by omega
   subst this;refine⟨f+1,⟨by omega,pj hb (by simp only[af.kZ];rw[hc,ag];simp)⟩,by omega,by rw[aw W (by simp only[maxLen];omega)]⟩
 ·have:f=c.fr.length:=by omega
  subst this;exact(af.GS hp ha hb).symm
theorem oK{c:af}(S:c.Shape)(f g:Int)(I : 0<=f)(h1:f<c.fr.length)(V : 0<=g)(W:g<c.fr.length):aA Tryz.prog 116 [.v (.ptr c.cells),.v (.int .i64 f),.v (.int .i64 g)] (.int .i64 (c.bH f g)) :=
 Jr c f g I (by have:=S.co;omega) V (by rw[S.Bj I h1];exact W)
def B0:List Nat:=[0,2,3,4,5,6,7,8,9,10]
def J1:Sl:=ah Tryz.types Tryz.f240 B0 []
theorem TG:aE Tryz.prog Tryz.f240 B0 J1 1=true:=by decide +kernel
theorem X2(c:af)(I:c.Shape):aA Tryz.prog 240 [.v (.ptr c.cells)] (fd c.fE):=by
 have hm:=I.fr;have ag:c.fr.length<=maxLen:=by simp only[maxLen];omega
 have bF:=I.to;have bg:=I.co;refine aQ Tryz.func240 TG ?_;unfold J1 ah B0;simp only[go_sem];refine aj (w5 c) rfl (.inl rfl) ?_;simp only[go_sem];refine au [] (fun(f:Nat)=>[(6,.int .i64 f)]) (fun f=>f<=c.fr.length/\∀j,j<f->c.eO j=false) (fun f=>c.fr.length-f) 0 (by simp only[go_sem];rfl) ⟨Nat.zero_le _,fun j hj=>by omega⟩ rfl ?_;rintro f ⟨hf,ha⟩;simp only[go_sem];refine⟨fun h=>?_,fun h=>?_⟩
 ·have e1:=I.jO h
  have e2:=I.tt e1.1 e1.2;have e4:=I.lz h;have e5:=I.tt e4.1 e4.2;refine⟨h,e1,aj (oK I (c.fG (c.fr.getD f 0)) f e2.1 e2.2 (by omega) (by omega)) rfl (.inl rfl) ?_⟩;simp only[go_sem];refine⟨fun Z=>⟨Z,by omega⟩,fun Z=>⟨Z,e4⟩,bf (fun h=>oK I f (c.fG (c.to.getD f 0)) (by omega) (by omega) e5.1 e5.2) rfl (fun h=>h) (.inl rfl) ?_⟩;simp only[go_sem];refine⟨fun Z=>by simpa only[Bool.not_eq_true'] using Z,fun Z=>?_,fun Z=>?_⟩
  ·rw[af.vD ha h Z];rfl
  ·exact⟨f+1,⟨by omega,fun j hj=>by by_cases hjf:j<f;exact ha j hjf;rw[show j=f by omega];exact Z⟩,by omega,by rw[aw h ag]⟩
 have:f=c.fr.length:=by omega
 subst this;refine au [8,9] (fun(f:Nat)=>[(7,.int .i64 f)]) (fun f=>f<=c.fr.length/\∀f' V S,f'<f->V<c.fr.length->S<c.fr.length->c.eo f' V S=false) (fun f=>c.fr.length-f) 0 (by simp only[go_sem];rfl) ⟨Nat.zero_le _,fun _ _ _ hj=>by omega⟩ rfl ?_;rintro f ⟨hf,hb⟩;simp only[go_sem];refine⟨fun ao=>?_,fun h=>?_⟩
 ·refine au [9] (fun(g:Nat)=>[(8,.int .i64 g)]) (fun g=>g<=c.fr.length/\∀V S,V<g->S<c.fr.length->c.eo f V S=false) (fun g=>c.fr.length-g) 0 (by simp only[go_sem];rfl) ⟨Nat.zero_le _,fun _ _ hj=>by omega⟩ rfl ?_
  rintro g ⟨hg,hc⟩;simp only[go_sem];refine⟨fun W=>?_,fun h=>?_⟩
  ·refine aj (oK I f g (by omega) (by omega) (by omega) (by omega)) rfl (.inl rfl) ?_
   simp only[go_sem];by_cases Z:c.to.getD f 0=c.fr.getD g 0
   ·have e1:=I.mC ao W Z
    refine⟨fun h3=>by omega,fun h3=>?_⟩;refine au [] (fun(h:Nat)=>[(9,.int .i64 h)]) (fun h=>h<=c.fr.length/\∀S,S<h->c.eo f g S=false) (fun h=>c.fr.length-h) 0 (by simp only[go_sem];rfl) ⟨Nat.zero_le _,fun _ hj=>by omega⟩ rfl ?_;rintro h ⟨hh,hd⟩;simp only[go_sem];refine⟨fun ad=>?_,fun h4=>?_⟩
    ·have a6 : 0<=c.bH g h->c.bH g h<c.fr.length/\c.to.getD g 0=c.fr.getD h 0:=fun h0=>by
      by_cases he:c.to.getD g 0=c.fr.getD h 0
      ·exact⟨(I.mC W ad he).2.1,he⟩
      ·rw[I.yo W ad he] at h0;exact absurd h0 (by decide)
     have a7:c.to.getD g 0=c.fr.getD h 0->0<=c.bH g h:=fun he=>(I.mC W ad he).1
     have a1:∀{x:Int},decide (0<=x)=true->0<=x:=fun h=>by simpa using h
     refine aj (oK I g h (by omega) (by omega) (by omega) (by omega)) rfl (.inl rfl) ?_;simp only[go_sem];refine bf (fun _=>oK I f g (by omega) (by omega) (by omega) (by omega)) rfl (fun h=>h) (.inl rfl) ?_;simp only[go_sem];refine bf (fun _=>oK I (c.bH f g) h e1.1 e1.2.1 (by omega) (by omega)) rfl (fun h=>h) (.inl rfl) ?_;simp only[go_sem];refine bf (fun _=>oK I g h (by omega) (by omega) (by omega) (by omega)) rfl (fun h=>h) (.inl rfl) ?_;simp only[go_sem];refine bf (fun h5=>oK I f (c.bH g h) (by omega) (by omega) (a1 h5) (a6 (a1 h5)).1) rfl (fun h=>h) (.inl rfl) ?_;simp only[go_sem]
     have ax:c.eo f g h=(decide (0<=c.bH g h)&&c.bH (c.bH f g) h != c.bH f (c.bH g h)):=by
      rw[af.EO Z];congr 1;rw[Bool.eq_iff_iff,beq_iff_eq,decide_eq_true_eq];exact⟨a7,fun h5=>(a6 h5).2⟩
     rw[<-ax];refine⟨fun h5=>?_,fun h5=>?_⟩
     ·rw[af.Ge ha ao W ad h5 hd hc hb];rfl
     ·exact⟨h+1,⟨by omega,l5 hd h5⟩,by omega,by rw[aw ad ag]⟩
    ·have:h=c.fr.length:=by omega
     subst this;exact⟨g+1,⟨by omega,fun V S ab Y=>l5 (P:=fun V=>c.eo f V S=false) (fun j hj=>hc j S hj Y) (hd S Y) V ab⟩,by omega,by rw[aw W ag]⟩
   ·refine⟨fun h3=>⟨g+1,⟨by omega,fun V S ab Y=>l5 (P:=fun V=>c.eo f V S=false) (fun j hj=>hc j S hj Y) (af.EN Z) V ab⟩,by omega,by rw[aw W ag]⟩,fun h3=>?_⟩
    rw[I.yo ao W Z] at h3;exact absurd h3 (by decide)
  ·have:g=c.fr.length:=by omega
   subst this;exact⟨f+1,⟨by omega,fun f' V S a8 ab Y=>l5 (P:=fun f'=>c.eo f' V S=false) (fun j hj=>hb j V S hj ab Y) (hc V S ab Y) f' a8⟩,by omega,by rw[aw ao ag]⟩
 ·have:f=c.fr.length:=by omega
  subst this;rw[af.tl ha hb];rfl
def B1:List Nat:=[0,2,3]
def J2:Sl:=ah Tryz.types Tryz.f182 B1 []
theorem TH:aE Tryz.prog Tryz.f182 B1 J2 1=true:=by decide +kernel
theorem Jq(c:af):aA Tryz.prog 182 [.v (.ptr c.cells)] (.bool c.cU):=by
 refine aQ Tryz.func182 TH ?_;unfold J2 ah B1;simp only[go_sem];refine aj (X3 c) rfl (.inl rfl) ?_;simp only[go_sem];refine⟨fun h=>?_,fun h=>?_⟩
 ·unfold af.cU;rw[Bool.not_eq_true'] at h;rw[h];rfl
 rw[Bool.not_eq_false'] at h;refine aj (X2 c (af.dO.1 h)) rfl (.inl rfl) ?_;simp only[fd];simp only[go_sem];unfold af.cU;rw[h];rfl
end Go.D3
