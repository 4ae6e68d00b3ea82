/- CONTRACTS: a map of schemas after another, the reference's side. -/
import Derived.Test.YtpnchponfnbmiaaGreatDoorGAP
namespace Go.D3
open Go
set_option maxHeartbeats 4000000
set_option maxRecDepth 100000
theorem xf{m:Smp}(hok:m.okB=true):(kV m=.ah [.agg (bG Smp.zero au.none au.none),.int .i64 3]/\(m.src.aU=none\/m.av.aU=none)) \/
  ∃a b,kV m=.ah [.agg (bG m a b),.int .i64 (if m.dK b=true then 0 else 5)]/\m.src.aU=some a/\m.av.aU=some b:=by
 unfold kV;rw[if_pos hok];cases ha:m.src.aU with
 | none=>exact .inl ⟨rfl,.inl rfl⟩
 | some a =>
  cases hb:m.av.aU with
  | none=>exact .inl ⟨rfl,.inr rfl⟩
  | some b =>
   refine .inr ⟨a,b,?_,rfl,rfl⟩;by_cases hr:m.dK b=true
   ·simp only[if_pos hr]
   ·simp only[if_neg hr]
def si:List Nat:=[0,1,4,5,2,3,6,7,8,9,10,11,12,13]
def uP:Sl:=ae Go.Proofs.Tryz.types Go.Proofs.Tryz.f15 si []
theorem xJ:aD Go.Proofs.Tryz.prog Go.Proofs.Tryz.f15 si uP 2=true:=by decide +kernel
theorem Hg{m n:Smp}(h:m.okB=false\/n.okB=false):al Go.Proofs.Tryz.prog 15 [.v (Smp.d m),.v (Smp.d n)] (.ah [Smp.d Smp.zero,.int .i64 1]):=by
 refine aC Go.Proofs.Tryz.func15 xJ ?_;unfold uP ae si;simp only[go_sem];refine af (ow m) rfl (.inl rfl) ?_;simp only[go_sem];refine bt (fun _=>ow n) rfl (fun h=>h) (.inl rfl) ?_;simp only[go_sem];refine⟨fun h'=>by simpa using h',fun _=>rfl,fun h'=>?_⟩;rcases h with h | h<;>simp[h] at h'
theorem yX{m n m1 n1:Smp}{a b c d:au}{x y z:Int}(hm:m.okB=true)(hn:n.okB=true)(hms:Sch.cost m.av<=1048576)(h1:kV m=.ah [.agg (bG m1 a b),.int .i64 x])(h2:kV n=.ah [.agg (bG n1 c d),.int .i64 y])
  (h3:x=3\/y=3->z=3) (h5:¬(x=3\/y=3)->z=5/\(x≠0\/y≠0\/ja m.av n.src=false)) :
  al Go.Proofs.Tryz.prog 15 [.v (Smp.d m),.v (Smp.d n)] (.ah [Smp.d Smp.zero,.int .i64 z]):=by
 have c1:=uN m;have c2:=uN n;rw[h1] at c1;rw[h2] at c2;have p1:=ow m;have p2:=ow n;rw[hm] at p1;rw[hn] at p2;have p3:=Hd m.av n.src hms;unfold bG Smp.cells au.sL at c1 c2;refine aC Go.Proofs.Tryz.func15 xJ ?_;unfold uP ae si;simp only[go_sem];refine af p1 rfl (.inl rfl) ?_;simp only[go_sem];refine bt (fun _=>p2) rfl (fun h=>h) (.inl rfl) ?_;simp only[go_sem];refine af c1 rfl (.inr trivial) ?_;simp(config:={ maxSteps:=4000000 }) only[go_sem];refine af c2 rfl (.inr trivial) ?_;simp(config:={ maxSteps:=4000000 }) only[go_sem];refine⟨fun h=>by rw[h];rfl,fun h=>?_,fun h=>⟨fun h'=>by rw[h'];rfl,bt (fun _=>p3) rfl (fun h=>h) (.inl rfl) ?_⟩⟩
 ·rw[h3 (by simpa using h)];rfl
 have hh:=h5 (by simpa using h);simp(config:={ maxSteps:=4000000 }) only[go_sem];refine⟨fun h'=>by simpa using h',fun _=>by rw[hh.1];rfl,fun h'=>?_⟩;exfalso;simp only[Bool.or_eq_false_iff,bne_eq_false_iff_eq,Bool.not_eq_false'] at h';rcases hh.2 with h2 | h2 | h2
 ·exact h2 h'.1.1
 ·exact h2 h'.1.2
 ·rw[h'.2] at h2;cases h2
end Go.D3
