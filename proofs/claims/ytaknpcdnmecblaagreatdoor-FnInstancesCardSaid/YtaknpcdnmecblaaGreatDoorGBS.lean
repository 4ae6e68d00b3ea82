/- THE LAW: FnInstances. -/
import Derived.Test.YtaknpcdnmecblaaGreatDoorGAZ
import Derived.Test.YtaknpcdnmecblaaGreatDoorGBR
namespace Go.D3
open Go Proofs
set_option maxHeartbeats 4000000
set_option maxRecDepth 100000
def CW:List Nat:=[0,2]
def KY:Sl:=ah Tryz.types Tryz.f6 CW []
theorem UB:aE Tryz.prog Tryz.f6 CW KY 1=true:=by decide +kernel
theorem YA(c:List Int):aA Tryz.prog 6 [.v (ae (D.int .u8) 0 c)] (.bool (decide (4096<(c.length:Int)))):=by
 refine iA fun hw=>?_
 simp only[eL,iJ] at hw;refine aQ Tryz.func6 UB ?_;unfold KY ah CW;simp only[go_sem]
def CX:List Nat:=[0,1,4,5]
def KZ:Sl:=ah Tryz.types Tryz.f16 CX []
theorem UC:aE Tryz.prog Tryz.f16 CX KZ 2=true:=by decide +kernel
theorem qu(a b:List Int):aA Tryz.prog 16 [.v (ints a),.v (ints b)] (.bool (a == b)):=by
 refine iA fun hw=>?_
 simp only[eL,iJ] at hw;have W:=hw.1.1;have Z:=hw.2.1.1;refine aQ Tryz.func16 UC ?_;unfold KZ ah CX;simp only[go_sem];refine⟨fun h=>?_,fun h=>?_⟩
 ·have I:a≠b:=fun V=>by subst V;simp at h
  exact(beq_eq_false_iff_ne.2 I).symm
 have hl:a.length=b.length:=Int.ofNat.inj (by simpa using h);refine au [] (fun(i:Nat)=>[(3,.int .i64 i)]) (fun i=>i<=a.length/\a.take i=b.take i) (fun i=>a.length-i) 0 (by simp only[go_sem];rfl) ⟨Nat.zero_le _,rfl⟩ rfl ?_;rintro i ⟨hi,Y⟩;simp only[go_sem];refine⟨fun h1=>?_,fun h1=>?_⟩
 ·refine⟨h1,by omega,fun S=>?_,fun S=>⟨i+1,⟨h1,?_⟩,by omega,by rw[aw h1 W]⟩⟩
  ·have I:a≠b:=fun V=>by subst V;simp at S
   exact(beq_eq_false_iff_ne.2 I).symm
  ·rw[b7 h1 0,b7 (by omega:i<b.length) 0,Y]
   congr 2;simpa using S
 ·rw[List.take_of_length_le (by omega),List.take_of_length_le (by omega)] at Y
  rw[Y];simp
def CY:List Nat:=[0,1,4,5]
def K0:Sl:=ah Tryz.types Tryz.f14 CY []
theorem UD:aE Tryz.prog Tryz.f14 CY K0 2=true:=by decide +kernel
theorem A6(a b:List (List Int)):aA Tryz.prog 14 [.v (aC a),.v (aC b)] (.bool (a == b)):=by
 refine iA fun hw=>?_
 simp only[eL,iJ] at hw;have W:=hw.1.1;have Z:=hw.2.1.1;refine aQ Tryz.func14 UD ?_;unfold K0 ah CY;simp only[go_sem];refine⟨fun h=>?_,fun h=>?_⟩
 ·have I:a≠b:=fun V=>by subst V;simp at h
  exact(beq_eq_false_iff_ne.2 I).symm
 have hl:a.length=b.length:=Int.ofNat.inj (by simpa using h);refine au [] (fun(i:Nat)=>[(3,.int .i64 i)]) (fun i=>i<=a.length/\a.take i=b.take i) (fun i=>a.length-i) 0 (by simp only[go_sem];rfl) ⟨Nat.zero_le _,rfl⟩ rfl ?_;rintro i ⟨hi,Y⟩;simp only[go_sem];refine⟨fun h1=>?_,fun h1=>?_⟩
 ·refine⟨h1,by omega,aj (qu _ _) rfl (.inl rfl) ?_⟩
  simp only[go_sem];refine⟨fun S=>?_,fun S=>⟨i+1,⟨h1,?_⟩,by omega,by rw[aw h1 W]⟩⟩
  ·have I:a≠b:=fun V=>by subst V;simp at S
   exact(beq_eq_false_iff_ne.2 I).symm
  ·rw[b7 h1 [],b7 (by omega:i<b.length) [],Y]
   congr 2;simpa using S
 ·rw[List.take_of_length_le (by omega),List.take_of_length_le (by omega)] at Y
  rw[Y];simp
def CZ:List Nat:=[0,1,4,2,3]
def K1:Sl:=ah Tryz.types Tryz.f17 CZ []
theorem UE:aE Tryz.prog Tryz.f17 CZ K1 2=true:=by decide +kernel
theorem Jy(a:af):aA Tryz.prog 17 [.v a.d,.v a.d] (.bool true):=by
 have W:(a.ob == a.ob)=true:=beq_self_eq_true _;have h1:=qu a.fr a.fr;have I:=qu a.to a.to;have S:=qu a.an a.an;have V:=A6 a.co a.co;rw[beq_self_eq_true] at h1 I S V;refine aQ Tryz.func17 UE ?_;unfold K1 ah CZ;simp only[go_sem];refine bf (fun _=>h1) rfl (fun h=>h) (.inl rfl) ?_;simp only[go_sem];refine bf (fun _=>I) rfl (fun h=>h) (.inl rfl) ?_;simp only[go_sem];refine bf (fun _=>S) rfl (fun h=>h) (.inl rfl) ?_;simp only[go_sem];refine bf (fun _=>V) rfl (fun h=>h) (.inl rfl) ?_;simp only[go_sem]
def C0:List Nat:=[0,1,4,2,3]
def K2:Sl:=ah Tryz.types Tryz.f10 C0 []
theorem UG:aE Tryz.prog Tryz.f10 C0 K2 2=true:=by decide +kernel
theorem Jz(f:Sf):aA Tryz.prog 10 [.v f.d,.v f.d] (.bool true):=by
 have h1:=Jy f.ay;have I:=qu f.sz f.sz;have S:=A6 f.act f.act;rw[beq_self_eq_true] at I S;refine aQ Tryz.func10 UG ?_;unfold K2 ah C0;simp only[go_sem];refine aj h1 rfl (.inl rfl) ?_;simp only[go_sem];refine bf (fun _=>I) rfl (fun h=>h) (.inl rfl) ?_;simp only[go_sem];refine bf (fun _=>S) rfl (fun h=>h) (.inl rfl) ?_;simp only[go_sem]
def vE:Option (Nat×Nat)->D
 | some (i,r)=>.av [.int .i64 i,.int .i64 r,.int .i64 0]
 | none=>.av [.int .i64 (-1),.int .i64 0,.int .i64 0]
def B5:List Nat:=[0,1,2,6,7,8,3,9,10]
def J6:Sl:=ah Tryz.types Tryz.f11 B5 []
theorem TL:aE Tryz.prog Tryz.f11 B5 J6 3=true:=by decide +kernel
theorem X5(s:aa)(sz:List Int)(mp:List (List Int))(V:s.ok=true)(S:s.du sz mp=true) :
  aA Tryz.prog 11 [.v (aa.d s),.v (ints sz),.v (aC mp)] (vE (s.brk sz mp s.lf.length)):=by
 have h1:=sq s;rw[V] at h1;have W:=Jt s sz mp (eX V).1;rw[S] at W
 have I:=Js s sz mp (yj V S) (fun x Y=>by
  have:=List.all_eq_true.1 (iB S).2.1 x Y;simp at this
  omega)
 refine aQ Tryz.func11 TL ?_;unfold J6 ah B5;simp only[go_sem];refine aj h1 rfl (.inl rfl) ?_;simp only[go_sem];refine aj W rfl (.inl rfl) ?_;simp only[go_sem];cases hb:s.brk sz mp s.lf.length with
 | none =>
  rw[hb] at I;unfold nQ at I;refine aj I rfl (.inl rfl) ?_;simp only[go_sem];rfl
 | some p =>
  rw[hb] at I;unfold nQ at I;refine aj I rfl (.inl rfl) ?_;simp only[go_sem];rfl
def CU:List Nat:=[0,2,3,4,5,6,7,8,9,10,11,12,13,14,15,16,18,19,20,21]
def KX:Sl:=ah Tryz.types Tryz.f3 CU [(0,7)]
theorem UA:aE Tryz.prog Tryz.f3 CU KX 1=true:=by decide +kernel
theorem Yz(c:List Int):aA Tryz.prog 3 [.v (ae (D.int .u8) 0 c)] (.bool true):=by
 refine iA fun hw=>?_
 simp only[eL,iJ] at hw;refine aQ Tryz.func3 UA ?_;unfold KX ah CU;simp only[go_sem];refine aj (YA c) rfl (.inl rfl) ?_;simp only[go_sem];intro hb
 have hc:ij c:=⟨by omega,fun i hi=>by
  have h1:IntKind.u8.has (c.getD i 0):=hw.1.2 (c.getD i 0) (by rw[aM hi];exact List.getElem_mem _);have h2:=h1.1;have h3:=h1.2;simp[IntKind.min,IntKind.max,IntKind.signed,IntKind.bits] at h2 h3;rw[List.getD_eq_getElem?_getD]
  omega⟩
 refine bj [] false (XW hc) ?_;rintro _ _ ⟨rfl,s,sz,mp,rfl⟩;refine⟨(by repeat(first | exact trivial | refine⟨(fun h=>by cases h),?_⟩)),(fun h=>by cases h),?_⟩;simp only[go_sem];have hi:=X7 s sz mp;have I:=YJ s sz mp;have hq:=Jz Sf.zero;have Z:∀n:Int,(D.av [Sf.d Sf.zero,.int .i64 n]).bA=true:=fun n=>by simp only[D.bA,eR,rV,Bool.and_true]
 rcases Bool.eq_false_or_eq_true s.ok with V | V
 rotate_left
 ·rw[show s.gS sz mp=(Sf.zero,1) by unfold aa.gS;rw[if_neg (by rw[V];decide)]] at hi I
  refine aj hi rfl (.inl (Z 1)) ?_;simp only[go_sem];refine aj I rfl (.inl (Z 1)) ?_;simp only[go_sem];refine bf (fun _=>hq) rfl (fun h=>h) (.inl rfl) ?_;simp only[go_sem];exact⟨by decide,by decide,fun _=>⟨by decide,fun h=>absurd h (by decide)⟩⟩
 rcases Bool.eq_false_or_eq_true (s.du sz mp) with W | W
 rotate_left
 ·rw[show s.gS sz mp=(Sf.zero,2) by unfold aa.gS;rw[if_pos V,if_neg (by rw[W];decide)]] at hi I
  refine aj hi rfl (.inl (Z 2)) ?_;simp only[go_sem];refine aj I rfl (.inl (Z 2)) ?_;simp only[go_sem];refine bf (fun _=>hq) rfl (fun h=>h) (.inl rfl) ?_;simp only[go_sem];exact⟨by decide,by decide,fun _=>⟨by decide,fun h=>absurd h (by decide)⟩⟩
 have S:=X5 s sz mp V W;rcases hp:s.cn with _ | x
 ·rw[show s.gS sz mp=(Sf.zero,3) by unfold aa.gS;rw[if_pos V,if_pos W,hp]] at hi I
  refine aj hi rfl (.inl (Z 3)) ?_;simp only[go_sem];refine aj I rfl (.inl (Z 3)) ?_;simp only[go_sem];refine bf (fun _=>hq) rfl (fun h=>h) (.inl rfl) ?_;simp only[go_sem];refine⟨by decide,by decide,fun _=>⟨by decide,fun _=>?_⟩⟩;rcases hb2:s.brk sz mp s.lf.length with _ | ⟨i,r⟩
  all_goals(
   rw[hb2] at S;unfold vE at S;refine aj S rfl (.inl rfl) ?_;simp only[go_sem];refine⟨?_,?_,?_,?_,?_,?_,fun _ h=>absurd h (by decide)⟩
   all_goals simp)
 rcases hb2:s.brk sz mp s.lf.length with _ | ⟨i,r⟩
 rotate_left
 ·rw[show s.gS sz mp=(Sf.zero,5) by unfold aa.gS;rw[if_pos V,if_pos W,hp];simp only[hb2];rfl] at hi I
  refine aj hi rfl (.inl (Z 5)) ?_;simp only[go_sem];refine aj I rfl (.inl (Z 5)) ?_;simp only[go_sem];refine bf (fun _=>hq) rfl (fun h=>h) (.inl rfl) ?_;simp only[go_sem];refine⟨by decide,by decide,fun _=>⟨by decide,fun _=>?_⟩⟩;rw[hb2] at S;unfold vE at S;refine aj S rfl (.inl rfl) ?_;simp only[go_sem];have b1:decide ((i:Int)<0)=false:=decide_eq_false (by omega);have b2:decide ((r:Int)<0)=false:=decide_eq_false (by omega);rw[b1,b2];refine⟨?_,?_,?_,?_,?_,?_,fun _ h=>absurd h (by decide)⟩
  all_goals simp
 have a8:=Jz (x.eH sz mp);rw[show s.gS sz mp=(x.eH sz mp,0) by unfold aa.gS;rw[if_pos V,if_pos W,hp];simp only[hb2];rfl] at hi I;have nx:(D.av [Sf.d (x.eH sz mp),.int .i64 0]).bA=true:=by simp only[D.bA,eR,rV,Bool.and_true]
 have a6:=X6 V hp W hb2;have bg:=Ya s V hp;have Y:=X8 (x.eH sz mp);rw[xp V hp W hb2] at Y;refine aj hi rfl (.inl nx) ?_;simp only[go_sem];refine aj I rfl (.inl nx) ?_;simp only[go_sem];refine bf (fun _=>a8) rfl (fun h=>h) (.inl rfl) ?_;simp only[go_sem];refine⟨by decide,by decide,fun _=>⟨by decide,fun _=>?_⟩⟩;rw[hb2] at S;unfold vE at S;refine aj S rfl (.inl rfl) ?_;simp only[go_sem];refine⟨by simp,by simp,by simp,by simp,by simp,by simp,fun _ _=>?_⟩;refine aj a6 rfl (.inl (by simp only[D.bA,eR,ow,Bool.and_true])) ?_;simp only[go_sem];refine aj bg rfl (.inr trivial) ?_;simp only[go_sem];have ag:=A6 mp mp
 have b0:aA Tryz.prog 16 [.v (ints (x.eH sz mp).sz),.v (ints sz)] (.bool true):=by
  have:=qu sz sz;rw[beq_self_eq_true] at this;exact this
 have ax:aA Tryz.prog 17 [.v (x.eH sz mp).ay.d,.v x.c.d] (.bool true):=Jy x.c;rw[beq_self_eq_true] at ag;rw[show IntKind.i64.wrap (0+0)=0 by decide];refine bf (fun _=>ag) rfl (fun h=>h) (.inl rfl) ?_;simp only[go_sem];refine⟨by simp,bf (fun _=>Y) rfl (fun _=>rfl) (.inl rfl) ?_⟩;simp only[go_sem];refine⟨by simp,bf (fun _=>b0) rfl (fun _=>rfl) (.inl rfl) ?_⟩;simp only[go_sem];refine⟨by simp,bf (fun _=>ax) rfl (fun _=>rfl) (.inl rfl) ?_⟩;simp only[go_sem];refine⟨by simp,by simp,fun _=>?_⟩;have bF:=ic (eX V).1;have b4:=bF.f8;have bT:=ql V hp;have cc:=bT.ed;have b9:=(iB W).2.2.1;refine au [18,19] (fun(k:Nat)=>[(17,.int .i64 k)]) (fun k=>k<=x.ed.length) (fun k=>x.ed.length-k) 0 (by simp only[go_sem];rfl) (Nat.zero_le _) rfl ?_;intro k hk;simp only[go_sem];intro h1;obtain⟨-,a1,⟨j,hj,b5,-⟩,ab⟩:=yH V hp (k:=k) (by omega);have ao:=FQ V hp W hb2 (k:=k) (by omega) hj
 have a7:aA Tryz.prog 18 [.v (aa.d s),.v (U.d ⟨s.fr.getD k 0,[(k:Int)]⟩)] (.av [.int .i64 j,.int .i64 0]):=by
  have:=X9 s ⟨s.fr.getD k 0,[(k:Int)]⟩ V a1 hp;rw[show(⟨s.fr.getD k 0,[(k:Int)]⟩:U).ed.length=1 from rfl,ab,hj] at this;exact this
 have ad:=qu (mp.getD k []) (mp.getD k []);rw[beq_self_eq_true] at ad
 have b3:(x.eH sz mp).act.length=x.c.fr.length:=by
  have hB:=xp V hp W hb2;simp only[Sf.cU,Bool.and_eq_true] at hB;exact(Sf.dO.1 hB.1).sN
 refine⟨by omega,aj a7 rfl (.inl rfl) ?_⟩;simp only[go_sem];simp only[hj,ao];have b1:decide ((j:Int)<0)=false:=decide_eq_false (by omega);have b2:decide ((x.eH sz mp).act.length<=j)=false:=decide_eq_false (by omega);rw[b1,b2];refine⟨fun h=>⟨h,h1⟩,by simp,by simp,by simp,fun h=>⟨h,by omega⟩,fun h=>⟨h,by omega⟩,bf (fun _=>ad) rfl (fun h=>h) (.inl rfl) ?_⟩;simp only[go_sem]
 with_reducible (repeat' apply And.intro)
 all_goals first
  | exact fun _=>⟨k+1,h1,by omega,by rw[aw h1 (by simp only[maxLen];omega)]⟩
  | simp
end Go.D3
