/- CONTRACTS: the set functor of an instance with all answers, both sides. -/
import Derived.Test.YtaknpcdnmecblaaGreatDoorGAU
import Derived.Test.YtaknpcdnmecblaaGreatDoorGAV
namespace Go.D3
open Go Proofs
set_option maxHeartbeats 4000000
set_option maxRecDepth 100000
noncomputable def aa.gS(s:aa)(sz:List Int)(mp:List (List Int)):Sf×Int :=
 if s.ok=true then if s.du sz mp=true then match s.cn with
  | none=>(Sf.zero,3)
  | some x=>if s.brk sz mp s.lf.length=none then(x.eH sz mp,0) else(Sf.zero,5)
 else(Sf.zero,2) else(Sf.zero,1)
def DT:List Nat:=[0,1,2,6,3,7]
def L2:Sl:=ah Tryz.types Tryz.f45 DT []
theorem VA:aE Tryz.prog Tryz.f45 DT L2 3=true:=by decide +kernel
theorem Za(s:aa)(sz:List Int)(mp:List (List Int))(hs:s.fI=true):aA Tryz.prog 45 [.v (aa.d s),.v (ints sz),.v (aC mp)] (.bool (s.du sz mp)):=by
 have W:=hs;simp only[aa.fI,Bool.and_eq_true,decide_eq_true_eq] at W;obtain⟨h1,S,a1,hf,ht⟩:=W;have hn : 0<=s.nd/\s.nd<=8:=by unfold bq at h1;simpa using h1
 refine aQ Tryz.func45 VA ?_;unfold L2 ah DT;simp only[go_sem];refine⟨fun h=>by rw[h];rfl,bf (fun _=>qv 17 sz) rfl (fun h=>h) (.inl rfl) ?_⟩;simp only[go_sem]
 have Y:s.du sz mp=(!(((sz.length:Int) != s.nd) || ((mp.length:Int) != (s.fr.length:Int)) || !bI 17 sz)&&(List.range mp.length).all (s.iw sz mp)):=by
  unfold aa.du
  have a2:(mp.length == s.fr.length)=!((mp.length:Int) != (s.fr.length:Int)):=by
   rw[Bool.eq_iff_iff];simp only[beq_iff_eq,Bool.not_eq_true',bne_eq_false_iff_eq];omega
  have a3:((sz.length:Int) == s.nd)=!((sz.length:Int) != s.nd):=by unfold bne;rw[Bool.not_not]
  rw[a2,a3,Bool.not_or,Bool.not_or,Bool.not_not,Bool.and_assoc,Bool.and_assoc,Bool.and_assoc,Bool.and_assoc];generalize(List.range mp.length).all (s.iw sz mp)=u;cases bI 17 sz<;>simp
 refine⟨fun h=>by simpa using h,fun h=>by rw[Y,h];rfl,fun h=>?_⟩;rw[h] at Y;simp only[Bool.or_eq_false_iff,bne_eq_false_iff_eq,Bool.not_eq_false'] at h;obtain⟨⟨ao,ag⟩,ab⟩:=h;refine au [] (fun(i:Nat)=>[(5,.int .i64 i)]) (fun i=>i<=mp.length/\(List.range i).all (s.iw sz mp)=true) (fun i=>mp.length-i) 0 (by simp only[go_sem];rfl) ⟨Nat.zero_le _,rfl⟩ rfl ?_;rintro i ⟨hi,Z⟩;simp only[go_sem];refine⟨fun h=>?_,fun h=>?_⟩
 ·have ad:=db hf (show i<s.fr.length by omega)
  have ax:=db ht (show i<s.to.length by omega);have I:(List.range (i+1)).all (s.iw sz mp)=s.iw sz mp i:=by rw[List.range_succ,List.all_append,Z];simp
  have neg:s.iw sz mp i=false->false=s.du sz mp:=fun hf=>by
   rw[Y];symm;rw[Bool.not_false,Bool.true_and,List.all_eq_false];exact⟨i,List.mem_range.2 h,by rw[hf];simp⟩
  have e2:s.iw sz mp i=!(((mp.getD i []).length:Int) != sz.getD (s.fr.getD i 0).toNat 0 || !bI (sz.getD (s.to.getD i 0).toNat 0) (mp.getD i [])):=by unfold aa.iw bne;rw[Bool.not_or,Bool.not_not,Bool.not_not]
  refine⟨h,by omega,⟨by omega,by omega⟩,fun S=>⟨S,by omega⟩,fun S=>⟨S,by omega,by omega⟩,fun S=>⟨S,h⟩,bf (fun _=>qv _ _) rfl (fun h=>h) (.inl rfl) ?_⟩;simp only[go_sem];refine⟨fun V=>by simpa using V,fun V=>neg (by rw[e2,V];rfl),fun V=>⟨i+1,⟨h,by rw[I,e2,V];rfl⟩,by omega,by rw[aw h (by simp only[maxLen];omega)]⟩⟩
 ·rw[show i=mp.length by omega] at Z
  rw[Y,Z];rfl
def C2:List Nat:=[0,1,2,6,7,3,8,9,10]
def K4:Sl:=ah Tryz.types Tryz.f9 C2 []
theorem UI:aE Tryz.prog Tryz.f9 C2 K4 3=true:=by decide +kernel
theorem YJ(s:aa)(sz:List Int)(mp:List (List Int)):aA Tryz.prog 9 [.v (aa.d s),.v (ints sz),.v (aC mp)] (.av [Sf.d (s.gS sz mp).1,.int .i64 (s.gS sz mp).2]):=by
 unfold aa.gS;refine aQ Tryz.func9 UI ?_;unfold K4 ah C2;simp only[go_sem];refine aj (w9 s) rfl (.inl rfl) ?_;cases hs:s.ok with
 | false =>
  simp only[go_sem];rfl
 | true =>
  simp only[go_sem];refine aj (Za s sz mp (eX hs).1) rfl (.inl rfl) ?_;cases hr:s.du sz mp with
  | false =>
   simp only[go_sem];rfl
  | true =>
   simp only[go_sem];have I:=JM s hs
   have S:=Y8 s sz mp (yj hs hr) (fun x W=>by
    have:=List.all_eq_true.1 (iB hr).2.1 x W;simp at this
    omega)
   cases hp:s.cn with
   | none =>
    rw[M1 hp] at I;unfold aW.sL aW.none at I;refine aj I rfl (.inr trivial) ?_;simp only[go_sem];rfl
   | some x =>
    rw[M3 hp] at I;have V:=Zg hs hp hr;unfold aW.sL at I V;refine aj I rfl (.inr trivial) ?_;simp only[go_sem];cases hb:s.brk sz mp s.lf.length with
    | none =>
     rw[hb] at S;unfold nQ at S;refine aj S rfl (.inl rfl) ?_;simp only[go_sem];refine⟨fun h=>absurd h (by decide),fun _=>?_⟩;refine aj V rfl (.inl (rV _)) ?_;simp only[go_sem]
    | some p =>
     rw[hb] at S;unfold nQ at S;refine aj S rfl (.inl rfl) ?_;simp only[go_sem];rfl
def B7:List Nat:=[0,1,2,6,7,3,8,9,10]
def J8:Sl:=ah Tryz.types Tryz.f8 B7 []
theorem TN:aE Tryz.prog Tryz.f8 B7 J8 3=true:=by decide +kernel
theorem X7(s:aa)(sz:List Int)(mp:List (List Int)):aA Tryz.prog 8 [.v (aa.d s),.v (ints sz),.v (aC mp)] (.av [Sf.d (s.gS sz mp).1,.int .i64 (s.gS sz mp).2]):=by
 unfold aa.gS;refine aQ Tryz.func8 TN ?_;unfold J8 ah B7;simp only[go_sem];refine aj (sq s) rfl (.inl rfl) ?_;cases hs:s.ok with
 | false =>
  simp only[go_sem];rfl
 | true =>
  simp only[go_sem];refine aj (Jt s sz mp (eX hs).1) rfl (.inl rfl) ?_;cases hr:s.du sz mp with
  | false =>
   simp only[go_sem];rfl
  | true =>
   simp only[go_sem];have S:=w7 s hs
   have I:=Js s sz mp (yj hs hr) (fun x W=>by
    have:=List.all_eq_true.1 (iB hr).2.1 x W;simp at this
    omega)
   cases hp:s.cn with
   | none =>
    rw[WU hp] at S;refine aj S rfl (.inr trivial) ?_;simp only[go_sem];exact⟨fun _=>rfl,fun h=>(by cases h)⟩
   | some x =>
    rw[wR hp] at S;have V:=Yx hs hp hr;unfold aW.pD at S V;refine aj S rfl (.inr trivial) ?_;simp only[go_sem];refine⟨fun h=>(by cases h),fun _=>?_⟩;cases hb:s.brk sz mp s.lf.length with
    | none =>
     rw[hb] at I;unfold nQ at I;refine aj I rfl (.inl rfl) ?_;simp only[go_sem];refine⟨fun h=>absurd h (by decide),fun _=>?_⟩;refine aj V rfl (.inl (rV _)) ?_;simp only[go_sem]
    | some p =>
     rw[hb] at I;unfold nQ at I;refine aj I rfl (.inl rfl) ?_;simp only[go_sem];rfl
end Go.D3
