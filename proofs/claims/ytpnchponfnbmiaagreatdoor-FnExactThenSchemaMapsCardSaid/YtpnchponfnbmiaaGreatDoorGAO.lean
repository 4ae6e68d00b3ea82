/- CONTRACTS: functors of maps of schemas: the reference's side, the code and the end. -/
import Derived.Test.YtpnchponfnbmiaaGreatDoorGAN
namespace Go.D3
open Go
set_option maxHeartbeats 4000000
set_option maxRecDepth 100000
noncomputable def kV(m:Smp):D :=
 if m.okB=true then
  match m.src.aU with
  | Option.none=>.ah [.agg (bG Smp.zero au.none au.none),.int .i64 3]
  | some a=>match m.av.aU with
   | Option.none=>.ah [.agg (bG Smp.zero au.none au.none),.int .i64 3]
   | some b=>if m.dK b=true then .ah [.agg (bG m a b),.int .i64 0] else .ah [.agg (bG m a b),.int .i64 5]
 else .ah [.agg (bG Smp.zero au.none au.none),.int .i64 1]
def vh:List Nat:=[0,2,3,1,4,5]
def y8:Sl:=ae Go.Proofs.Tryz.types Go.Proofs.Tryz.f26 vh []
theorem Fe:aD Go.Proofs.Tryz.prog Go.Proofs.Tryz.f26 vh y8 1=true:=by decide +kernel
theorem yI{m m':Smp}{a b:au}{n:Int}(h:gk m=.ah [.agg (bG m' a b),.int .i64 n])(hn:n=1\/n=3):al Go.Proofs.Tryz.prog 26 [.v (Smp.d m)] (.vw (.ah [.agg (bG m' a b),.int .i64 n])):=by
 have ho:=Hb m;refine al.qy (xs:=[_]) (res:=.ah [.agg (kW m' a b),.int .i64 n]) ?_ rfl xj;rw[h] at ho;unfold bG Smp.cells au.sL at ho;unfold kW;refine aC Go.Proofs.Tryz.func26 Fe ?_;unfold y8 ae vh;simp only[go_sem];refine af ho rfl (.inr trivial) ?_;rcases hn with rfl | rfl
 ·simp(config:={ maxSteps:=2000000 }) only[go_sem]
  refine bt (res:=.bool false) (fun h=>by cases h) rfl (fun h=>by cases h) (.inl rfl) ?_;simp(config:={ maxSteps:=2000000 }) only[go_sem];exact fun h=>absurd h (by decide)
 ·simp(config:={ maxSteps:=2000000 }) only[go_sem]
  refine bt (res:=.bool false) (fun h=>by cases h) rfl (fun h=>by cases h) (.inl rfl) ?_;simp(config:={ maxSteps:=2000000 }) only[go_sem];exact fun h=>absurd h (by decide)
theorem S2{m:Smp}{a b:au}(h:gk m=.ah [.agg (bG m a b),.int .i64 0])(hm:m.Ok)(hb:fY m.av b)(n:Int)(hn:n=if m.dK b=true then 0 else 5):al Go.Proofs.Tryz.prog 26 [.v (Smp.d m)] (.vw (.ah [.agg (bG m a b),.int .i64 n])):=by
 have ho:=Hb m;have hr:=TX hm a hb;refine al.qy (xs:=[_]) (res:=.ah [.agg (kW m a b),.int .i64 n]) ?_ rfl xj;rw[h] at ho;unfold bG Smp.cells au.sL at ho hr;unfold kW;refine aC Go.Proofs.Tryz.func26 Fe ?_;unfold y8 ae vh;simp only[go_sem];refine af ho rfl (.inr trivial) ?_;simp(config:={ maxSteps:=2000000 }) only[go_sem];refine bt (fun _=>hr) rfl (fun h=>h) (.inl rfl) ?_;simp(config:={ maxSteps:=2000000 }) only[go_sem];refine⟨fun h=>?_,fun h=>?_⟩
 ·rw[hn,if_neg (by intro h';simp[h'] at h)]
 ·have hx:m.dK b=true:=by
   cases hx:m.dK b with
   | true=>rfl
   | false=>simp[hx] at h
  rw[hn,if_pos hx]
theorem uN(m:Smp):al Go.Proofs.Tryz.prog 26 [.v (Smp.d m)] (.vw (kV m)):=by
 unfold kV;by_cases hok:m.okB=true
 ·have hm:=Smp.iU hok
  rw[if_pos hok];cases ha:m.src.aU with
  | none=>exact yI (by unfold gk;rw[if_pos hok,ha]) (.inr rfl)
  | some a =>
   cases hb:m.av.aU with
   | none=>exact yI (by unfold gk;rw[if_pos hok,ha];simp only[hb]) (.inr rfl)
   | some b =>
    have h:=S2 (a:=a) (b:=b) (by unfold gk;rw[if_pos hok,ha];simp only[hb]) hm (iv hm.t hb);by_cases hr:m.dK b=true
    ·simp only[if_pos hr]
     exact h 0 (by rw[if_pos hr])
    ·simp only[if_neg hr]
     exact h 5 (by rw[if_neg hr])
 ·rw[if_neg hok]
  exact yI (by unfold gk;rw[if_neg hok]) (.inl rfl)
end Go.D3
