/- CONTRACTS: the law FnExactArrowCategory, from contracts of the two functions, and without conditions. -/
import Derived.Test.YtaknpcdnmecblaaGAR
import Derived.Test.YtaknpcdnmecblaaGAS
import Derived.Test.YtaknpcdnmecblaaGAD
import Derived.Test.YtaknpcdnmecblaaGAA
import Derived.Test.YtaknpcdnmecblaaGAJ
namespace Go.D3
open Go Proofs
set_option maxHeartbeats 4000000
set_option maxRecDepth 100000
def Gt:C := (.seq (.ops [3,1] (oL [.eK 5 (.v 0),.dO [.int .i64 0,.aM (.int .i64 0),.aM (.int .i64 0),.aM (.int .i64 0),.aM (ints [])],.bY 2 (.i 0)]) [(3,0),(1,1)]) (.seq (.om [] (oL [.call 18 [(.v 3)],.not (.t 0)]) [] (.t 1) (.seq (.u [.kz [.int .i64 0,.aM (.int .i64 0),.aM (.int .i64 0),.aM (.int .i64 0),.aM (ints [])] [],.gf 5 (.v 1) (.t 0),.bY 2 (.i 1)]) .ret) .skip) (.seq (.ops [4] (oL [.call 19 [(.v 3)],.dO [.int .i64 0,.aM (.int .i64 0),.aM (.int .i64 0),.aM (.int .i64 0),.aM (ints []),.int .i64 0,.aM (.int .i64 0),.aM (.int .i64 0),.aM (.int .i64 0),.aM (ints []),.aM (.int .i64 0),.aM (.int .i64 0)],.gf 12 (.t 1) (.t 0)]) [(4,1)]) (.seq (.u [.call 20 [(.v 4),(.v 4)],.n 0,.ext 0 (.t 1),.ext 1 (.t 1),.a 5 2,.a 6 3]) (.seq (.om [] (oL [.m 6,.not (.t 0)]) [] (.t 1) (.seq (.u [.kz [.int .i64 0,.aM (.int .i64 0),.aM (.int .i64 0),.aM (.int .i64 0),.aM (ints [])] [],.gf 5 (.v 1) (.t 0),.bY 2 (.i 3)]) .ret) .skip) (.seq (.u [.m 5,.call 21 [(.t 0)],.gf 5 (.v 1) (.t 1),.bY 2 (.i 0)]) .ret))))))
def qC:List Nat:=[0,2,3,1,4,5,6]
def qx:List RS:=[.c 1 5 true,.t 2]
theorem J3:jE Try.prog Try.f7 qC Gt 1 qx=true:=by decide +kernel
def ry(c:Cat):List D:=[c.d,.box [.int .i64 0,.aM (.int .i64 0),.aM (.int .i64 0),.aM (.int .i64 0),.aM (ints [])],.int .i64 0,.ptr c.cells,
 .box [.int .i64 c.ob,.o (ints c.fr),.o (ints c.to),.o (ints c.aK),.o (aB c.co),.int .i64 c.ob,.o (ints c.fr),.o (ints c.to),.o (ints c.aK),.o (aB c.co),.o (ints (bN c.ob.toNat)),.o (ints (bN c.fr.length))],.dead,.dead]
theorem MQ(c:Cat):aD Try.prog 7 [.v c.d] (.au [(en c).1.d,.int .i64 (en c).2]):=by
 refine Ni Try.func7 J3 rfl (show 1<500 by decide) rfl (fun a ha=>⟨c.d,by simpa using ha⟩) fun code cx a w Q hfit ht hF hB hN hR=>?_
 refine OU (K:=fun env=>c.cZ=true/\env=ry c) (O:=out qx (.au [(en c).1.d,.int .i64 (en c).2]) qC.length [.v c.d]) (E:=⟨fun _ _=>False,out qx (.au [(en c).1.d,.int .i64 (en c).2]) qC.length [.v c.d]⟩) ht hfit ?_ hB ?_ hN (fun _ _ _ _ h _=>h.elim) hR
 ·unfold qC qx
  simp only[go_sem];refine aC (MS c) rfl (.inl rfl) ?_;simp only[go_sem];refine⟨fun h=>?_,fun h=>?_⟩
  ·simp only[Bool.not_eq_true'] at h
   unfold en;rw[h];rfl
  ·simp only[Bool.not_eq_false'] at h
   obtain⟨hc,-,-⟩:=fS h;refine aC (M0 c hc) rfl (.inl (pZ _)) ?_;simp only[go_sem];exact⟨h,rfl⟩
 ·rintro a w env ⟨h,rfl⟩ hB
  obtain⟨hc,-,-⟩:=fS h;refine⟨_,hB.freeze hF (j:=4) (l':=(aL c).cells) (by decide) rfl (by simp[ry]) rfl (by simp[ry,bD,D.refs,Cat.d,Cat.cells,ak]),?_⟩;unfold qx qC;simp only[ry,cL];simp only[go_sem];refine aC (MX c h) rfl (.inr trivial) ?_;unfold en kE;rw[if_pos h];by_cases h1:(ah c).length<=8
  ·rw[if_pos h1,if_pos h1]
   by_cases h2:(an c).length<=40
   ·rw[if_pos h2,if_pos h2]
    simp only[go_sem];refine aC (MY c h h1 h2) rfl (.inl (JX c)) ?_;simp only[go_sem]
    trace_state
    all_goals rfl
   ·rw[if_neg h2,if_neg h2]
    simp only[go_sem]
    trace_state
    all_goals rfl
  ·rw[if_neg h1,if_neg h1]
   simp only[go_sem]
   all_goals rfl
end Go.D3
namespace Go.D3
open Go Proofs
set_option maxHeartbeats 4000000
set_option maxRecDepth 100000
theorem Al{a:List (List Int)}:ca a a.length<=dk List.length a:=by
 have:∀i,i<=a.length->ca a i=((a.take i).map List.length).sum:=by
  intro i;induction i with
  | zero=>intro _;simp[ca]
  | succ i ih=>intro h;rw[ca,ih (by omega),tz (cost:=List.length) (by omega) []]
 rw[this _ (Nat.le_refl _),List.take_length];unfold dk;omega
theorem I1(c:Cat):c.fV<=c.cost:=by
 have:=Al (a:=c.co);unfold Cat.fV Cat.cost;omega
theorem FM(c:Cat):(en c).1.fV<=4000000000000000000:=by
 have hz:Cat.zero.fV<=4000000000000000000:=by decide
 unfold en;split
 ·split
  ·split
   ·rename_i h8 h40
    have h5:dk List.length (fe c).co<=(fe c).co.length*41:=uC fun x hx=>by
     obtain⟨i,hi,rfl⟩:=List.mem_map.1 hx;simp;omega
    have h6:(fe c).co.length=(an c).length:=by simp[fe]
    have h7:=Al (a:=(fe c).co);have h9:(fe c).fr.length=(an c).length:=by simp[fe]
    have h10:(fe c).to.length=(an c).length:=by simp[fe]
    have h11:(fe c).aK.length=(ah c).length:=by simp[fe]
    show(fe c).fV<=_;unfold Cat.fV;omega
   ·exact hz
  ·exact hz
 ·exact hz
def yh:List Nat:=[0,2,1,3,4,5,6,7,8,9,10,11,12,13]
def D4:Sl:=al Try.types Try.f3 yh [(2,9)]
theorem Ko:aX Try.prog Try.f3 yh D4 1=true:=by decide +kernel
theorem F9(a:Cat)(r:Cat)(e:Int)(hsp:aD Try.prog 5 [.v (Cat.d a)] (.au [Cat.d r,.int .i64 e]))(him:aD Try.prog 7 [.v (Cat.d a)] (.au [Cat.d r,.int .i64 e]))
  (hr:r.fV<=4000000000000000000):aD Try.prog 3 [.v (Cat.d a)] (.bool true):=by
 refine a7 Try.func3 Ko ?_;unfold D4 al yh;simp only[go_sem];refine aC (Nc a _ (by decide) (by decide)) rfl (.inl rfl) ?_;simp only[go_sem];refine fun h=>?_
 have hs:Cat.cost a<=1048576:=by
  unfold sb at h;split at h<;>omega
 have hb:=I1 a;refine aC (ta a hs) rfl (.inl (eM _)) ?_;simp only[go_sem];refine aC hsp rfl (.inl (by simp[D.bp,dA,eM])) ?_;simp only[go_sem];refine aC (ta a hs) rfl (.inl (eM _)) ?_;simp only[go_sem];refine aC him rfl (.inl (by simp[D.bp,dA,eM])) ?_;simp only[go_sem];refine aC (sZ r) rfl (.inl rfl) ?_;simp only[go_sem];refine⟨fun hh=>by simp at hh,fun _=>?_⟩;refine aC (ta a hs) rfl (.inl (eM _)) ?_;simp only[go_sem];refine aC (sZ a) rfl (.inl rfl) ?_;simp only[go_sem];refine Bi (Dw a 1 (by decide) (by omega)) trivial ?_;simp only[go_sem];refine⟨(a.marks 1).cells,rfl,AP ?_⟩;simp only[go_sem];have hk:decide (1+(a.fV:Int)<0)=false:=decide_eq_false (by omega);simp only[hk,Bool.not_false];refine dx (fun _=>sZ r) rfl (fun _=>rfl) (.inl rfl) ?_;simp only[go_sem];refine⟨fun hh=>by simp at hh,fun _=>?_⟩;refine Bi (Dw r 1 (by decide) (by omega)) trivial ?_;simp only[go_sem];refine⟨(r.marks 1).cells,rfl,AP ?_⟩;simp only[go_sem];refine aC (Dv r 1 (by decide) (by omega)) rfl (.inl rfl) ?_;simp only[go_sem];refine⟨fun hh=>by omega,fun _=>?_⟩;refine⟨fun hh=>by simp at hh,fun _=>?_⟩;refine aC (ta a hs) rfl (.inl (eM _)) ?_;simp only[go_sem];refine aC him rfl (.inl (by simp[D.bp,dA,eM])) ?_;simp only[go_sem];refine aC (sZ r) rfl (.inl rfl) ?_;simp only[go_sem];refine⟨fun hh=>by simp at hh,fun _=>?_⟩;refine aC (Dv r 1 (by decide) (by omega)) rfl (.inl rfl) ?_;simp only[go_sem];refine⟨fun hh=>by omega,fun _=>?_⟩;simp
theorem M8(a:Cat):aD Try.prog 3 [.v (Cat.d a)] (.bool true) :=
 F9 a (en a).1 (en a).2 (Nj a) (MQ a) (FM a)
end Go.D3
