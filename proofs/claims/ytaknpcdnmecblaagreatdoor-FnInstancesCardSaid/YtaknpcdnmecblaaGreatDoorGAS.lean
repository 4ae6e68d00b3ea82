/- CONTRACT: schemas, the reference's side. -/
import Derived.Test.YtaknpcdnmecblaaGreatDoorGAA
namespace Go.D3
open Go Proofs
set_option maxHeartbeats 4000000
set_option maxRecDepth 100000
set_option maxHeartbeats 1000000
theorem Tz(s:aa):s.fI=!(!bq s.nd 0 8 || decide ((8:Int)<(s.fr.length:Int)) || ((s.to.length:Int) != (s.fr.length:Int)) || !bI s.nd s.fr || !bI s.nd s.to):=by
 unfold aa.fI;have I:decide (s.fr.length<=8)=!decide ((8:Int)<(s.fr.length:Int)):=by rw[<-decide_not];exact decide_eq_decide.2 (by omega)
 have a2:decide (s.to.length=s.fr.length)=!((s.to.length:Int) != (s.fr.length:Int)):=by
  by_cases h:s.to.length=s.fr.length<;>simp[h]<;>omega
 rw[I,a2];cases bq s.nd 0 8<;>cases decide ((8:Int)<(s.fr.length:Int))<;>cases((s.to.length:Int) != (s.fr.length:Int))<;>cases bI s.nd s.fr<;>cases bI s.nd s.to<;>rfl
theorem TA(s:aa):s.jn=!(decide ((8:Int)<(s.lf.length:Int)) || ((s.rt.length:Int) != (s.lf.length:Int))):=by
 unfold aa.jn;have I:decide (s.lf.length<=8)=!decide ((8:Int)<(s.lf.length:Int)):=by rw[<-decide_not];exact decide_eq_decide.2 (by omega)
 have a2:decide (s.rt.length=s.lf.length)=!((s.rt.length:Int) != (s.lf.length:Int)):=by
  by_cases h:s.rt.length=s.lf.length<;>simp[h]<;>omega
 rw[I,a2,Bool.not_or]
def C4:List Nat:=[0,2,1,3,4,5]
def K6:Sl:=ah Tryz.types Tryz.f44 C4 []
theorem UK:aE Tryz.prog Tryz.f44 C4 K6 1=true:=by decide +kernel
theorem w9(s:aa):aA Tryz.prog 44 [.v (aa.d s)] (.bool s.ok):=by
 refine iA fun hw=>?_
 simp only[eL,iJ,aa.d,aa.cells,D.ek,iH] at hw;have hl:s.lf.length<=maxLen:=hw.1.2.2.2.1.1;refine aQ Tryz.func44 UK ?_;unfold K6 ah C4;simp only[go_sem];refine aj (A8 _ _ _) rfl (.inl rfl) ?_;simp only[go_sem];refine⟨fun h=>by simpa using h,(fun h=>by simp only[Bool.or_eq_false_iff,Bool.and_eq_true,Bool.not_eq_true',Bool.not_eq_false'] at h|-;exact h),?_⟩;refine bf (fun _=>qv s.nd s.fr) rfl (fun h=>h) (.inl rfl) ?_;simp only[go_sem];refine⟨(fun h=>by simp only[Bool.or_eq_false_iff,Bool.and_eq_true,Bool.not_eq_true',Bool.not_eq_false'] at h|-;exact h),?_⟩;refine bf (fun _=>qv s.nd s.to) rfl (fun h=>h) (.inl rfl) ?_;simp only[go_sem];have e1:=Tz s;have e2:=TA s;refine⟨(fun h=>by simp only[Bool.or_eq_false_iff,Bool.and_eq_true,Bool.not_eq_true',Bool.not_eq_false'] at h|-;exact h),(fun h=>by simp only[Bool.or_eq_false_iff,Bool.and_eq_true,Bool.not_eq_true',Bool.not_eq_false'] at h|-;exact h),(fun h=>by simp only[Bool.or_eq_false_iff,Bool.and_eq_true,Bool.not_eq_true',Bool.not_eq_false'] at h|-;exact h),fun h=>?_,fun h=>?_⟩
 ·unfold aa.ok
  rw[e1,e2];generalize bq s.nd 0 8=x1 at h|-
  generalize decide ((8:Int)<(s.fr.length:Int))=x2 at h|-
  generalize((s.to.length:Int) != (s.fr.length:Int))=x3 at h|-
  generalize bI s.nd s.fr=x4 at h|-
  generalize bI s.nd s.to=x5 at h|-
  generalize decide ((8:Int)<(s.lf.length:Int))=x6 at h|-
  generalize((s.rt.length:Int) != (s.lf.length:Int))=x7 at h|-
  cases x1<;>cases x2<;>cases x3<;>cases x4<;>cases x5<;>cases x6<;>cases x7<;>first | rfl | cases h
 have W:s.fI=true:=by rw[e1];simp only[Bool.or_eq_false_iff] at h;simp only[h.1.1.1.1.1.1,h.1.1.1.1.1.2,h.1.1.1.1.2,h.1.1.1.2,h.1.1.2];rfl
 have Y:s.jn=true:=by rw[e2];simp only[Bool.or_eq_false_iff] at h;simp only[h.1.2,h.2];rfl
 clear h e1 e2;have hs:=ic W;have V:=hs.to;have hn:=hs.n0;have ab:s.rt.length=s.lf.length:=by have:=Y;simp[aa.jn] at this;exact this.2
 refine au [4,5] (fun(i:Nat)=>[(3,.int .i64 i)]) (fun i=>i<=s.lf.length/\s.eqs i=true) (fun i=>s.lf.length-i) 0 (by simp only[go_sem];rfl) ⟨Nat.zero_le _,rfl⟩ rfl ?_;rintro i ⟨hi,ha⟩;simp only[go_sem];refine⟨fun h=>⟨h,by omega,aj (JJ s (s.lf.getD i U.zero) V hn) rfl (.inl rfl) ?_⟩,fun h=>?_⟩
 ·simp only[go_sem]
  refine bf (fun _=>JJ s (s.rt.getD i U.zero) V hn) rfl (fun h=>h) (.inl rfl) ?_;simp only[go_sem];have Z:=F3 (s:=s) (n:=i);unfold aa.te at Z
  have neg:s.eqs (i+1)=false->false=s.ok:=fun hf=>by
   unfold aa.ok;rw[W,Y];symm;simp only[Bool.true_and];unfold aa.eqs at hf|-
   rw[List.all_eq_false] at hf|-
   obtain⟨x,h1,I⟩:=hf;exact⟨x,by rw[List.mem_range] at h1|-;omega,I⟩
  rw[ha,Bool.true_and] at Z;refine⟨fun h=>by simpa using h,(fun h=>by simp only[Bool.or_eq_false_iff,Bool.and_eq_true,Bool.not_eq_false'] at h|-;exact h),?_⟩;have S:∀{o:Option Int}{b:Bool},(o.isSome&&b)=true->o=some (o.getD 0):=fun {o b} h=>by cases o with | none=>cases h | some a=>rfl
  refine bf (fun hg=>qw s (s.lf.getD i U.zero) ((s.aO (s.lf.getD i U.zero)).getD 0) V (by rw[Bool.and_assoc] at hg;exact S hg)) rfl (fun h=>h) (.inl rfl) ?_;simp only[go_sem]
  refine bf (fun hg=>qw s (s.rt.getD i U.zero) ((s.aO (s.rt.getD i U.zero)).getD 0) V (by
   rw[Bool.and_eq_true,Bool.and_eq_true] at hg;exact S (b:=true) (by rw[hg.1.2];rfl))) rfl (fun h=>h) (.inl rfl) ?_
  simp only[go_sem];refine⟨(fun h=>by simp only[Bool.or_eq_false_iff,Bool.and_eq_true,Bool.not_eq_true',Bool.not_eq_false'] at h|-;exact h),fun I=>neg ?_,fun I=>⟨i+1,⟨h,?_⟩,by omega,by rw[aw h hl]⟩⟩
  ·rw[Z]
   generalize s.aO (s.lf.getD i U.zero)=A at I;generalize s.aO (s.rt.getD i U.zero)=B at I;cases A with
   | none=>rfl
   | some a =>
    cases B with
    | none=>rfl
    | some b =>
     rw[Bool.and_eq_false_iff];simp only[Option.isSome_some,Bool.not_true,Bool.false_or,Option.getD_some,Bool.or_eq_true,bne_iff_ne] at I;exact I.imp beq_eq_false_iff_ne.2 beq_eq_false_iff_ne.2
  ·rw[Z]
   generalize s.aO (s.lf.getD i U.zero)=A at I;generalize s.aO (s.rt.getD i U.zero)=B at I;cases A with
   | none=>cases I
   | some a =>
    cases B with
    | none=>cases I
    | some b =>
     simp only[Option.isSome_some,Bool.not_true,Bool.false_or,Option.getD_some,Bool.or_eq_false_iff,bne_eq_false_iff_eq] at I;rw[Bool.and_eq_true];exact⟨beq_iff_eq.2 I.1,beq_iff_eq.2 I.2⟩
 ·rw[show i=s.lf.length by omega] at ha
  unfold aa.ok;rw[W,Y,ha];rfl
end Go.D3
