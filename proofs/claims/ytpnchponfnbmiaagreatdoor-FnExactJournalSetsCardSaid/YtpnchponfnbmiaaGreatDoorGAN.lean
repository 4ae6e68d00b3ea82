/- CONTRACT: schemas, the reference's side. -/
import Derived.Test.YtpnchponfnbmiaaGreatDoorGAA
namespace Go.D3
open Go Proofs
set_option maxHeartbeats 4000000
set_option maxRecDepth 100000
set_option maxHeartbeats 1000000
theorem Tr(s:aa):s.gm=!(!aR s.nd 0 8 || decide ((8:Int)<(s.fr.length:Int)) || ((s.to.length:Int) != (s.fr.length:Int)) || !bQ s.nd s.fr || !bQ s.nd s.to):=by
 unfold aa.gm;have a1:decide (s.fr.length<=8)=!decide ((8:Int)<(s.fr.length:Int)):=by rw[<-decide_not];exact decide_eq_decide.2 (by omega)
 have a2:decide (s.to.length=s.fr.length)=!((s.to.length:Int) != (s.fr.length:Int)):=by
  by_cases h:s.to.length=s.fr.length<;>simp[h]<;>omega
 rw[a1,a2];cases aR s.nd 0 8<;>cases decide ((8:Int)<(s.fr.length:Int))<;>cases((s.to.length:Int) != (s.fr.length:Int))<;>cases bQ s.nd s.fr<;>cases bQ s.nd s.to<;>rfl
theorem Ts(s:aa):s.ja=!(decide ((8:Int)<(s.lf.length:Int)) || ((s.rt.length:Int) != (s.lf.length:Int))):=by
 unfold aa.ja;have a1:decide (s.lf.length<=8)=!decide ((8:Int)<(s.lf.length:Int)):=by rw[<-decide_not];exact decide_eq_decide.2 (by omega)
 have a2:decide (s.rt.length=s.lf.length)=!((s.rt.length:Int) != (s.lf.length:Int)):=by
  by_cases h:s.rt.length=s.lf.length<;>simp[h]<;>omega
 rw[a1,a2,Bool.not_or]
def C1:List Nat:=[0,2,1,3,4,5]
def Lp:Sl:=ah Tryz.types Tryz.f79 C1 []
theorem US:aC Tryz.prog Tryz.f79 C1 Lp 1=true:=by decide +kernel
theorem YD(s:aa):aw Tryz.prog 79 [.v (aa.d s)] (.bool s.ok):=by
 refine eZ fun hw=>?_
 simp only[dp,fZ,aa.d,aa.cells,D.dG,ik] at hw;have hl:s.lf.length<=maxLen:=hw.1.2.2.2.1.1;refine aK Tryz.func79 US ?_;unfold Lp ah C1;simp only[go_sem];refine an (pY _ _ _) rfl (.inl rfl) ?_;simp only[go_sem];refine⟨fun h=>by simpa using h,(fun h=>by simp only[Bool.or_eq_false_iff,Bool.and_eq_true,Bool.not_eq_true',Bool.not_eq_false'] at h|-;exact h),?_⟩;refine bu (fun _=>tL s.nd s.fr) rfl (fun h=>h) (.inl rfl) ?_;simp only[go_sem];refine⟨(fun h=>by simp only[Bool.or_eq_false_iff,Bool.and_eq_true,Bool.not_eq_true',Bool.not_eq_false'] at h|-;exact h),?_⟩;refine bu (fun _=>tL s.nd s.to) rfl (fun h=>h) (.inl rfl) ?_;simp only[go_sem];have e1:=Tr s;have e2:=Ts s;refine⟨(fun h=>by simp only[Bool.or_eq_false_iff,Bool.and_eq_true,Bool.not_eq_true',Bool.not_eq_false'] at h|-;exact h),(fun h=>by simp only[Bool.or_eq_false_iff,Bool.and_eq_true,Bool.not_eq_true',Bool.not_eq_false'] at h|-;exact h),(fun h=>by simp only[Bool.or_eq_false_iff,Bool.and_eq_true,Bool.not_eq_true',Bool.not_eq_false'] at h|-;exact h),fun h=>?_,fun h=>?_⟩
 ·unfold aa.ok
  rw[e1,e2];generalize aR s.nd 0 8=x1 at h|-
  generalize decide ((8:Int)<(s.fr.length:Int))=x2 at h|-
  generalize((s.to.length:Int) != (s.fr.length:Int))=x3 at h|-
  generalize bQ s.nd s.fr=x4 at h|-
  generalize bQ s.nd s.to=x5 at h|-
  generalize decide ((8:Int)<(s.lf.length:Int))=x6 at h|-
  generalize((s.rt.length:Int) != (s.lf.length:Int))=x7 at h|-
  cases x1<;>cases x2<;>cases x3<;>cases x4<;>cases x5<;>cases x6<;>cases x7<;>first | rfl | cases h
 have e1':s.gm=true:=by rw[e1];simp only[Bool.or_eq_false_iff] at h;simp only[h.1.1.1.1.1.1,h.1.1.1.1.1.2,h.1.1.1.1.2,h.1.1.1.2,h.1.1.2];rfl
 have e2':s.ja=true:=by rw[e2];simp only[Bool.or_eq_false_iff] at h;simp only[h.1.2,h.2];rfl
 clear h e1 e2;have hs:=gw e1';have hto:=hs.to;have hn:=hs.n0;have hrt:s.rt.length=s.lf.length:=by have:=e2';simp[aa.ja] at this;exact this.2
 refine aE [4,5] (fun(i:Nat)=>[(3,.int .i64 i)]) (fun i=>i<=s.lf.length/\s.eqs i=true) (fun i=>s.lf.length-i) 0 (by simp only[go_sem];rfl) ⟨Nat.zero_le _,rfl⟩ rfl ?_;rintro i ⟨hi,ha⟩;simp only[go_sem];refine⟨fun h=>⟨h,by omega,an (JQ s (s.lf.getD i U.zero) hto hn) rfl (.inl rfl) ?_⟩,fun h=>?_⟩
 ·simp only[go_sem]
  refine bu (fun _=>JQ s (s.rt.getD i U.zero) hto hn) rfl (fun h=>h) (.inl rfl) ?_;simp only[go_sem];have hE:=FP (s:=s) (n:=i);unfold aa.sF at hE
  have neg:s.eqs (i+1)=false->false=s.ok:=fun hf=>by
   unfold aa.ok;rw[e1',e2'];symm;simp only[Bool.true_and];unfold aa.eqs at hf|-
   rw[List.all_eq_false] at hf|-
   obtain⟨x,h1,h2⟩:=hf;exact⟨x,by rw[List.mem_range] at h1|-;omega,h2⟩
  rw[ha,Bool.true_and] at hE;refine⟨fun h=>by simpa using h,(fun h=>by simp only[Bool.or_eq_false_iff,Bool.and_eq_true,Bool.not_eq_false'] at h|-;exact h),?_⟩;have some1:∀{o:Option Int}{b:Bool},(o.isSome&&b)=true->o=some (o.getD 0):=fun {o b} h=>by cases o with | none=>cases h | some a=>rfl
  refine bu (fun hg=>pZ s (s.lf.getD i U.zero) ((s.aO (s.lf.getD i U.zero)).getD 0) hto (by rw[Bool.and_assoc] at hg;exact some1 hg)) rfl (fun h=>h) (.inl rfl) ?_;simp only[go_sem]
  refine bu (fun hg=>pZ s (s.rt.getD i U.zero) ((s.aO (s.rt.getD i U.zero)).getD 0) hto (by
   rw[Bool.and_eq_true,Bool.and_eq_true] at hg;exact some1 (b:=true) (by rw[hg.1.2];rfl))) rfl (fun h=>h) (.inl rfl) ?_
  simp only[go_sem];refine⟨(fun h=>by simp only[Bool.or_eq_false_iff,Bool.and_eq_true,Bool.not_eq_true',Bool.not_eq_false'] at h|-;exact h),fun h2=>neg ?_,fun h2=>⟨i+1,⟨h,?_⟩,by omega,by rw[aL h hl]⟩⟩
  ·rw[hE]
   generalize s.aO (s.lf.getD i U.zero)=A at h2;generalize s.aO (s.rt.getD i U.zero)=B at h2;cases A with
   | none=>rfl
   | some a =>
    cases B with
    | none=>rfl
    | some b =>
     rw[Bool.and_eq_false_iff];simp only[Option.isSome_some,Bool.not_true,Bool.false_or,Option.getD_some,Bool.or_eq_true,bne_iff_ne] at h2;exact h2.imp beq_eq_false_iff_ne.2 beq_eq_false_iff_ne.2
  ·rw[hE]
   generalize s.aO (s.lf.getD i U.zero)=A at h2;generalize s.aO (s.rt.getD i U.zero)=B at h2;cases A with
   | none=>cases h2
   | some a =>
    cases B with
    | none=>cases h2
    | some b =>
     simp only[Option.isSome_some,Bool.not_true,Bool.false_or,Option.getD_some,Bool.or_eq_false_iff,bne_eq_false_iff_eq] at h2;rw[Bool.and_eq_true];exact⟨beq_iff_eq.2 h2.1,beq_iff_eq.2 h2.2⟩
 ·rw[show i=s.lf.length by omega] at ha
  unfold aa.ok;rw[e1',e2',ha];rfl
end Go.D3
