/- CONTRACTS: functors of maps of schemas: the reference's side, from opening on. -/
import Derived.Test.YtpnchponfnbmiaaGreatDoorGAM
namespace Go.D3
open Go
set_option maxHeartbeats 4000000
set_option maxRecDepth 100000
noncomputable def gk(m:Smp):D :=
 if m.okB=true then
  match m.src.aU with
  | Option.none=>.ah [.agg (bG Smp.zero au.none au.none),.int .i64 3]
  | some a=>match m.av.aU with
   | Option.none=>.ah [.agg (bG Smp.zero au.none au.none),.int .i64 3]
   | some b=>.ah [.agg (bG m a b),.int .i64 0]
 else .ah [.agg (bG Smp.zero au.none au.none),.int .i64 1]
def kW(m:Smp)(a b:au):List D:=[.int .i64 m.src.nd,.vw (ints m.src.fr),.vw (ints m.src.to),.vw (U Pth.d Pth.zero m.src.lf),.vw (U Pth.d Pth.zero m.src.rt),.int .i64 m.av.nd,.vw (ints m.av.fr),.vw (ints m.av.to),.vw (U Pth.d Pth.zero m.av.lf),.vw (U Pth.d Pth.zero m.av.rt),.vw (ints m.aX),.vw (U Pth.d Pth.zero m.aL),.int .i64 a.c.ob,.vw (ints a.c.fr),.vw (ints a.c.to),.vw (ints a.c.aN),.vw (aW a.c.co),.vw (U Pth.d Pth.zero a.ls),.vw (ints a.ed),.int .i64 b.c.ob,.vw (ints b.c.fr),.vw (ints b.c.to),.vw (ints b.c.aN),.vw (aW b.c.co),.vw (U Pth.d Pth.zero b.ls),.vw (ints b.ed)]
theorem M8{m:Smp}{a b:au}:stripL (kW m a b)=bG m a b:=by
 unfold kW;simp only[stripL,D.strip,dh,qn,oK];rfl
theorem M7{m:Smp}{a b:au}:stripL (bG m a b)=bG m a b:=by
 unfold bG Smp.cells au.sL;simp only[List.cons_append,List.nil_append,stripL,D.strip,dh,qn,oK]
theorem xk{m:Smp}{a b:au}{n:Int}:(D.ah [.agg (bG m a b),.int .i64 n]).strip=.ah [.agg (bG m a b),.int .i64 n]:=by
 show D.ah [.agg (stripL (bG m a b)),_]=_;rw[M7];rfl
theorem xj{m:Smp}{a b:au}{n:Int}:(D.ah [.agg (kW m a b),.int .i64 n]).strip=.ah [.agg (bG m a b),.int .i64 n]:=by
 show D.ah [.agg (stripL (kW m a b)),_]=_;rw[M8];rfl
theorem al.qy{P:Program}{f:FuncId}{ar:List Arg}{xs:List D}{res d:D}(h:al P f ar res)(ha:ar=xs.map .v)(he:res.strip=d):al P f ar (.vw d):=by
 subst ha;rw[<-he];exact h.vo
def oM:List Nat:=[0,2,3,1,4,5,6,7]
def qg:Sl:=ae Go.Proofs.Tryz.types Go.Proofs.Tryz.f71 oM []
theorem rC:aD Go.Proofs.Tryz.prog Go.Proofs.Tryz.f71 oM qg 1=true:=by decide +kernel
theorem Hb(m:Smp):al Go.Proofs.Tryz.prog 71 [.v (Smp.d m)] (.vw (gk m)):=by
 have hparts:=ow m;by_cases hok:m.okB=true
 ·have hm:=Smp.iU hok
  rw[hok] at hparts;have h1:=Hf m.src hm.s;have h2:=Hf m.av hm.t;cases ha:m.src.aU with
  | none =>
   rw[show gk m=.ah [.agg (bG Smp.zero au.none au.none),.int .i64 3] by unfold gk;rw[if_pos hok,ha]];refine al.qy (xs:=[_]) (res:=.ah [.agg (bG Smp.zero au.none au.none),.int .i64 3]) ?_ rfl xk;rw[zI ha] at h1;unfold au.sL at h1;cases hb:m.av.aU with
   | none =>
    rw[zI hb] at h2;unfold au.sL at h2;refine aC Go.Proofs.Tryz.func71 rC ?_;unfold qg ae oM;simp only[go_sem];refine af hparts rfl (.inl rfl) ?_;simp only[go_sem];refine af h1 rfl (.inr trivial) ?_;simp only[go_sem];refine af h2 rfl (.inr trivial) ?_;simp(config:={ maxSteps:=2000000 }) only[go_sem];rfl
   | some b =>
    rw[zJ hb] at h2;unfold au.sL at h2;refine aC Go.Proofs.Tryz.func71 rC ?_;unfold qg ae oM;simp only[go_sem];refine af hparts rfl (.inl rfl) ?_;simp only[go_sem];refine af h1 rfl (.inr trivial) ?_;simp only[go_sem];refine af h2 rfl (.inr trivial) ?_;simp(config:={ maxSteps:=2000000 }) only[go_sem];rfl
  | some a =>
   rw[zJ ha] at h1;unfold au.sL at h1;cases hb:m.av.aU with
   | none =>
    rw[show gk m=.ah [.agg (bG Smp.zero au.none au.none),.int .i64 3] by unfold gk;rw[if_pos hok,ha];simp only[hb]];refine al.qy (xs:=[_]) (res:=.ah [.agg (bG Smp.zero au.none au.none),.int .i64 3]) ?_ rfl xk;rw[zI hb] at h2;unfold au.sL at h2;refine aC Go.Proofs.Tryz.func71 rC ?_;unfold qg ae oM;simp only[go_sem];refine af hparts rfl (.inl rfl) ?_;simp only[go_sem];refine af h1 rfl (.inr trivial) ?_;simp only[go_sem];refine af h2 rfl (.inr trivial) ?_;simp(config:={ maxSteps:=2000000 }) only[go_sem];rfl
   | some b =>
    rw[show gk m=.ah [.agg (bG m a b),.int .i64 0] by unfold gk;rw[if_pos hok,ha];simp only[hb]];refine al.qy (xs:=[_]) (res:=.ah [.agg (kW m a b),.int .i64 0]) ?_ rfl xj;rw[zJ hb] at h2;unfold au.sL at h2;refine aC Go.Proofs.Tryz.func71 rC ?_;unfold qg ae oM;simp only[go_sem];refine af hparts rfl (.inl rfl) ?_;simp only[go_sem];refine af h1 rfl (.inr trivial) ?_;simp only[go_sem];refine af h2 rfl (.inr trivial) ?_;simp(config:={ maxSteps:=2000000 }) only[go_sem];rfl
 ·rw[Bool.not_eq_true] at hok
  rw[hok] at hparts;rw[show gk m=.ah [.agg (bG Smp.zero au.none au.none),.int .i64 1] by unfold gk;rw[if_neg (by simp[hok])]];refine al.qy (xs:=[_]) (res:=.ah [.agg (bG Smp.zero au.none au.none),.int .i64 1]) ?_ rfl xk;refine aC Go.Proofs.Tryz.func71 rC ?_;unfold qg ae oM;simp only[go_sem];refine af hparts rfl (.inl rfl) ?_;simp only[go_sem];rfl
end Go.D3
