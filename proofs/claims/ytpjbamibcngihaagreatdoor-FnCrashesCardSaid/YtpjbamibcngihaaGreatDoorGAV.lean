/- CONTRACTS: a journal is read, the program's side: the part behind the first steps. -/
import Derived.Test.YtpjbamibcngihaaGreatDoorGAU
namespace Go.D3
open Go
set_option maxHeartbeats 4000000
set_option maxRecDepth 100000
def vt:Nat->Code->Code
 | 0,c=>c
 | n+1,.seq _ b=>vt n b
 | _+1,c=>c
def wF:C := (.alt [] (.two 0 2 [1,2,0,3,4,5,6,7,8,9,10,11] (.two 6 9 [0,1,2,3,4,5,7,8,9,6,10,11] (.two 5 9 [0,1,2,3,4,6,7,8,9,5,10,11] (.leaf (oL [.ld (.v 1),.m 0,.dyn (.k (.fn 43 [])) [(.t 1)],.n 2,.ext 0 (.t 3),.ext 1 (.t 3),.ext 2 (.t 3),.bH (.t 0),.fA 0 (.t 7),.bE 5 (.t 8) (.t 4),.st (.v 3) (.t 5),.a 2 6]) []) (.leaf (oL [.ld (.v 1),.m 0,.dyn (.k (.fn 43 [])) [(.t 1)],.n 2,.ext 0 (.t 3),.ext 2 (.t 3),.bH (.t 0),.fA 0 (.t 6),.bE 5 (.t 7) (.t 4),.ext 1 (.t 3),.st (.v 3) (.t 9),.a 2 5]) [])) (.two 5 8 [0,1,2,3,4,6,7,8,5,9,10,11] (.two 9 10 [0,1,2,3,4,5,6,7,8,10,9,11] (.leaf (oL [.ld (.v 1),.m 0,.dyn (.k (.fn 43 [])) [(.t 1)],.n 2,.ext 0 (.t 3),.ext 1 (.t 3),.bH (.t 0),.fA 0 (.t 6),.bE 5 (.t 7) (.t 4),.ext 2 (.t 3),.st (.v 3) (.t 5),.a 2 9]) []) (.leaf (oL [.ld (.v 1),.m 0,.dyn (.k (.fn 43 [])) [(.t 1)],.n 2,.ext 0 (.t 3),.ext 1 (.t 3),.bH (.t 0),.fA 0 (.t 6),.bE 5 (.t 7) (.t 4),.st (.v 3) (.t 5),.ext 2 (.t 3),.a 2 10]) [])) (.two 9 10 [0,1,2,3,4,5,6,7,8,10,9,11] (.leaf (oL [.ld (.v 1),.m 0,.dyn (.k (.fn 43 [])) [(.t 1)],.n 2,.ext 0 (.t 3),.bH (.t 0),.fA 0 (.t 5),.bE 5 (.t 6) (.t 4),.ext 1 (.t 3),.ext 2 (.t 3),.st (.v 3) (.t 8),.a 2 9]) []) (.leaf (oL [.ld (.v 1),.m 0,.dyn (.k (.fn 43 [])) [(.t 1)],.n 2,.ext 0 (.t 3),.bH (.t 0),.fA 0 (.t 5),.bE 5 (.t 6) (.t 4),.ext 1 (.t 3),.st (.v 3) (.t 8),.ext 2 (.t 3),.a 2 10]) [])))) (.two 6 9 [0,1,2,3,4,5,7,8,9,6,10,11] (.two 5 9 [0,1,2,3,4,6,7,8,9,5,10,11] (.leaf (oL [.m 0,.dyn (.k (.fn 43 [])) [(.t 0)],.ld (.v 1),.n 1,.ext 0 (.t 3),.ext 1 (.t 3),.ext 2 (.t 3),.bH (.t 2),.fA 0 (.t 7),.bE 5 (.t 8) (.t 4),.st (.v 3) (.t 5),.a 2 6]) []) (.leaf (oL [.m 0,.dyn (.k (.fn 43 [])) [(.t 0)],.ld (.v 1),.n 1,.ext 0 (.t 3),.ext 2 (.t 3),.bH (.t 2),.fA 0 (.t 6),.bE 5 (.t 7) (.t 4),.ext 1 (.t 3),.st (.v 3) (.t 9),.a 2 5]) [])) (.two 5 8 [0,1,2,3,4,6,7,8,5,9,10,11] (.two 9 10 [0,1,2,3,4,5,6,7,8,10,9,11] (.leaf (oL [.m 0,.dyn (.k (.fn 43 [])) [(.t 0)],.ld (.v 1),.n 1,.ext 0 (.t 3),.ext 1 (.t 3),.bH (.t 2),.fA 0 (.t 6),.bE 5 (.t 7) (.t 4),.ext 2 (.t 3),.st (.v 3) (.t 5),.a 2 9]) []) (.leaf (oL [.m 0,.dyn (.k (.fn 43 [])) [(.t 0)],.ld (.v 1),.n 1,.ext 0 (.t 3),.ext 1 (.t 3),.bH (.t 2),.fA 0 (.t 6),.bE 5 (.t 7) (.t 4),.st (.v 3) (.t 5),.ext 2 (.t 3),.a 2 10]) [])) (.two 9 10 [0,1,2,3,4,5,6,7,8,10,9,11] (.leaf (oL [.m 0,.dyn (.k (.fn 43 [])) [(.t 0)],.ld (.v 1),.n 1,.ext 0 (.t 3),.bH (.t 2),.fA 0 (.t 5),.bE 5 (.t 6) (.t 4),.ext 1 (.t 3),.ext 2 (.t 3),.st (.v 3) (.t 8),.a 2 9]) []) (.leaf (oL [.m 0,.dyn (.k (.fn 43 [])) [(.t 0)],.ld (.v 1),.n 1,.ext 0 (.t 3),.bH (.t 2),.fA 0 (.t 5),.bE 5 (.t 6) (.t 4),.ext 1 (.t 3),.st (.v 3) (.t 8),.ext 2 (.t 3),.a 2 10]) []))))))
def wG:C := (.alt [7] (.two 1 2 [0,2,1,3,4,5,6,7,8,9,10,11,12] (.two 1 10 [0,5,10,1,2,3,4,6,7,8,9,11,12] (.two 9 11 [0,1,2,3,4,5,6,7,8,10,11,9,12] (.leaf (oL [.m 4,.ld (.v 1),.dyn (.k (.fn 35 [])) [(.t 1)],.ld (.v 1),.bH (.t 3),.fA 0 (.t 4),.call 39 [(.t 2),(.t 5),(.t 0)],.n 6,.ext 0 (.t 7),.ext 1 (.t 7),.cw [.aB (.int .i64 0),.aB (ints [])],.bE 2 (.t 10) (.t 8),.a 8 9]) [(7,10)]) (.leaf (oL [.m 4,.ld (.v 1),.dyn (.k (.fn 35 [])) [(.t 1)],.ld (.v 1),.bH (.t 3),.fA 0 (.t 4),.call 39 [(.t 2),(.t 5),(.t 0)],.n 6,.ext 0 (.t 7),.cw [.aB (.int .i64 0),.aB (ints [])],.bE 2 (.t 9) (.t 8),.ext 1 (.t 7),.a 8 11]) [(7,9)])) (.two 10 11 [0,1,2,3,4,5,6,7,8,9,11,10,12] (.leaf (oL [.m 4,.ld (.v 1),.cw [.aB (.int .i64 0),.aB (ints [])],.dyn (.k (.fn 35 [])) [(.t 1)],.ld (.v 1),.bH (.t 4),.fA 0 (.t 5),.call 39 [(.t 3),(.t 6),(.t 0)],.n 7,.ext 0 (.t 8),.ext 1 (.t 8),.bE 2 (.t 2) (.t 9),.a 8 10]) [(7,2)]) (.leaf (oL [.m 4,.ld (.v 1),.cw [.aB (.int .i64 0),.aB (ints [])],.dyn (.k (.fn 35 [])) [(.t 1)],.ld (.v 1),.bH (.t 4),.fA 0 (.t 5),.call 39 [(.t 3),(.t 6),(.t 0)],.n 7,.ext 0 (.t 8),.bE 2 (.t 2) (.t 9),.ext 1 (.t 8),.a 8 11]) [(7,2)]))) (.two 2 3 [0,1,3,2,4,5,6,7,8,9,10,11,12] (.two 2 10 [0,1,5,10,2,3,4,6,7,8,9,11,12] (.two 9 11 [0,1,2,3,4,5,6,7,8,10,11,9,12] (.leaf (oL [.m 4,.ld (.v 1),.ld (.v 1),.dyn (.k (.fn 35 [])) [(.t 1)],.bH (.t 2),.fA 0 (.t 4),.call 39 [(.t 3),(.t 5),(.t 0)],.n 6,.ext 0 (.t 7),.ext 1 (.t 7),.cw [.aB (.int .i64 0),.aB (ints [])],.bE 2 (.t 10) (.t 8),.a 8 9]) [(7,10)]) (.leaf (oL [.m 4,.ld (.v 1),.ld (.v 1),.dyn (.k (.fn 35 [])) [(.t 1)],.bH (.t 2),.fA 0 (.t 4),.call 39 [(.t 3),(.t 5),(.t 0)],.n 6,.ext 0 (.t 7),.cw [.aB (.int .i64 0),.aB (ints [])],.bE 2 (.t 9) (.t 8),.ext 1 (.t 7),.a 8 11]) [(7,9)])) (.two 10 11 [0,1,2,3,4,5,6,7,8,9,11,10,12] (.leaf (oL [.m 4,.ld (.v 1),.ld (.v 1),.cw [.aB (.int .i64 0),.aB (ints [])],.dyn (.k (.fn 35 [])) [(.t 1)],.bH (.t 2),.fA 0 (.t 5),.call 39 [(.t 4),(.t 6),(.t 0)],.n 7,.ext 0 (.t 8),.ext 1 (.t 8),.bE 2 (.t 3) (.t 9),.a 8 10]) [(7,3)]) (.leaf (oL [.m 4,.ld (.v 1),.ld (.v 1),.cw [.aB (.int .i64 0),.aB (ints [])],.dyn (.k (.fn 35 [])) [(.t 1)],.bH (.t 2),.fA 0 (.t 5),.call 39 [(.t 4),(.t 6),(.t 0)],.n 7,.ext 0 (.t 8),.bE 2 (.t 3) (.t 9),.ext 1 (.t 8),.a 8 11]) [(7,3)]))) (.two 3 4 [0,1,2,4,3,5,6,7,8,9,10,11,12] (.two 3 10 [0,1,2,5,10,3,4,6,7,8,9,11,12] (.two 9 11 [0,1,2,3,4,5,6,7,8,10,11,9,12] (.leaf (oL [.m 4,.ld (.v 1),.ld (.v 1),.bH (.t 2),.dyn (.k (.fn 35 [])) [(.t 1)],.fA 0 (.t 3),.call 39 [(.t 4),(.t 5),(.t 0)],.n 6,.ext 0 (.t 7),.ext 1 (.t 7),.cw [.aB (.int .i64 0),.aB (ints [])],.bE 2 (.t 10) (.t 8),.a 8 9]) [(7,10)]) (.leaf (oL [.m 4,.ld (.v 1),.ld (.v 1),.bH (.t 2),.dyn (.k (.fn 35 [])) [(.t 1)],.fA 0 (.t 3),.call 39 [(.t 4),(.t 5),(.t 0)],.n 6,.ext 0 (.t 7),.cw [.aB (.int .i64 0),.aB (ints [])],.bE 2 (.t 9) (.t 8),.ext 1 (.t 7),.a 8 11]) [(7,9)])) (.two 10 11 [0,1,2,3,4,5,6,7,8,9,11,10,12] (.leaf (oL [.m 4,.ld (.v 1),.ld (.v 1),.bH (.t 2),.cw [.aB (.int .i64 0),.aB (ints [])],.dyn (.k (.fn 35 [])) [(.t 1)],.fA 0 (.t 3),.call 39 [(.t 5),(.t 6),(.t 0)],.n 7,.ext 0 (.t 8),.ext 1 (.t 8),.bE 2 (.t 4) (.t 9),.a 8 10]) [(7,4)]) (.leaf (oL [.m 4,.ld (.v 1),.ld (.v 1),.bH (.t 2),.cw [.aB (.int .i64 0),.aB (ints [])],.dyn (.k (.fn 35 [])) [(.t 1)],.fA 0 (.t 3),.call 39 [(.t 5),(.t 6),(.t 0)],.n 7,.ext 0 (.t 8),.bE 2 (.t 4) (.t 9),.ext 1 (.t 8),.a 8 11]) [(7,4)]))) (.two 4 10 [0,1,2,3,5,10,4,6,7,8,9,11,12] (.two 9 11 [0,1,2,3,4,5,6,7,8,10,11,9,12] (.leaf (oL [.m 4,.ld (.v 1),.ld (.v 1),.bH (.t 2),.fA 0 (.t 3),.dyn (.k (.fn 35 [])) [(.t 1)],.call 39 [(.t 5),(.t 4),(.t 0)],.n 6,.ext 0 (.t 7),.ext 1 (.t 7),.cw [.aB (.int .i64 0),.aB (ints [])],.bE 2 (.t 10) (.t 8),.a 8 9]) [(7,10)]) (.leaf (oL [.m 4,.ld (.v 1),.ld (.v 1),.bH (.t 2),.fA 0 (.t 3),.dyn (.k (.fn 35 [])) [(.t 1)],.call 39 [(.t 5),(.t 4),(.t 0)],.n 6,.ext 0 (.t 7),.cw [.aB (.int .i64 0),.aB (ints [])],.bE 2 (.t 9) (.t 8),.ext 1 (.t 7),.a 8 11]) [(7,9)])) (.two 10 11 [0,1,2,3,4,5,6,7,8,9,11,10,12] (.leaf (oL [.m 4,.ld (.v 1),.ld (.v 1),.bH (.t 2),.fA 0 (.t 3),.cw [.aB (.int .i64 0),.aB (ints [])],.dyn (.k (.fn 35 [])) [(.t 1)],.call 39 [(.t 6),(.t 4),(.t 0)],.n 7,.ext 0 (.t 8),.ext 1 (.t 8),.bE 2 (.t 5) (.t 9),.a 8 10]) [(7,5)]) (.leaf (oL [.m 4,.ld (.v 1),.ld (.v 1),.bH (.t 2),.fA 0 (.t 3),.cw [.aB (.int .i64 0),.aB (ints [])],.dyn (.k (.fn 35 [])) [(.t 1)],.call 39 [(.t 6),(.t 4),(.t 0)],.n 7,.ext 0 (.t 8),.bE 2 (.t 5) (.t 9),.ext 1 (.t 8),.a 8 11]) [(7,5)])))))))
def wH:C := (.alt [] (.two 0 7 [1,2,3,4,5,6,7,0,8,9,10] (.leaf (oL [.ld (.v 1),.ld (.v 1),.bH (.t 1),.fA 5 (.t 2),.ld (.t 3),.dj 2 (.v 7),.aR (.agg [ints [],aI []]) 1 [(0,(.t 5))],.app 2 48 (.t 4) (.t 6),.bH (.t 0),.fA 5 (.t 8),.st (.t 9) (.t 7)]) []) (.leaf (oL [.ld (.v 1),.bH (.t 0),.fA 5 (.t 1),.ld (.t 2),.dj 2 (.v 7),.aR (.agg [ints [],aI []]) 1 [(0,(.t 4))],.app 2 48 (.t 3) (.t 5),.ld (.v 1),.bH (.t 7),.fA 5 (.t 8),.st (.t 9) (.t 6)]) [])))
def wI:C := (.alt [] (.two 0 7 [1,2,3,4,5,6,7,0,8,9,10] (.leaf (oL [.ld (.v 1),.ld (.v 1),.bH (.t 1),.fA 6 (.t 2),.ld (.t 3),.m 4,.aR (.slice (.agg [.int .i64 0,.int .i64 0,.int .i64 0,.int .i64 0]) []) 1 [(0,(.t 5))],.app 1 24 (.t 4) (.t 6),.bH (.t 0),.fA 6 (.t 8),.st (.t 9) (.t 7)]) []) (.leaf (oL [.ld (.v 1),.bH (.t 0),.fA 6 (.t 1),.ld (.t 2),.m 4,.aR (.slice (.agg [.int .i64 0,.int .i64 0,.int .i64 0,.int .i64 0]) []) 1 [(0,(.t 4))],.app 1 24 (.t 3) (.t 5),.ld (.v 1),.bH (.t 7),.fA 6 (.t 8),.st (.t 9) (.t 6)]) [])))
def wJ:C := (.alt [] (.two 0 5 [1,2,3,4,5,0,6,7,8] (.leaf (oL [.ld (.v 1),.ld (.v 1),.bH (.t 1),.fA 0 (.t 2),.call 86 [(.t 3)],.jh (.agg [ints [],aI []]) (.t 4),.bH (.t 0),.fA 5 (.t 6),.st (.t 7) (.t 5)]) []) (.leaf (oL [.ld (.v 1),.bH (.t 0),.fA 0 (.t 1),.call 86 [(.t 2)],.jh (.agg [ints [],aI []]) (.t 3),.ld (.v 1),.bH (.t 5),.fA 5 (.t 6),.st (.t 7) (.t 4)]) [])))
def wE:C := (.seq wF (.seq (.dp [] (oL [.m 2,.not (.t 0)]) [] (.t 1) (.seq (.u [.ld (.v 1),.iD 1 (.v 1) (.t 0),.bQ 2 (.k (.bool false))]) .ret) .skip) (.seq wJ (.block 0 (.loop (.block 1 (.seq (.u [.m 0,.ld (.v 3),.call 87 [(.t 0),(.t 1)],.n 2,.ext 0 (.t 3),.ext 1 (.t 3),.ext 2 (.t 3),.a 4 4,.a 5 5,.a 6 6]) (.seq (.dp [] (oL [.m 6,.not (.t 0)]) [] (.t 1) (.seq (.u [.ld (.v 1),.iD 1 (.v 1) (.t 0),.bQ 2 (.k (.bool true))]) .ret) .skip) (.seq wG (.seq (.dp [] (oL [.m 8,.not (.t 0)]) [] (.t 1) (.seq (.u [.ld (.v 1),.iD 1 (.v 1) (.t 0),.bQ 2 (.k (.bool true))]) .ret) .skip) (.seq wH (.seq wI (.u [.m 5,.st (.v 3) (.t 0)])))))))))))))
def WY:List Nat:=[0,2,3,4,5,6,7,8,9]
theorem QW:cE Go.Proofs.Tryz.prog 77 WY (vt 4 (Go.Proofs.Tryz.f59.body.getD .skip)) wE=true:=by decide +kernel
def rJ(t:List UInt8)(env:List D):Prop :=
 match bn t with
 | none=>∃(s:aa)(n:Int)(x y z u v:D),env=[.str t,.aw 11 [(0,0)],.bool false,.aw 10 [(0,0)],x,y,z,u,v,.box (cM s [] [] 0),.box [.int .i64 n],.box [.aw 9 [(0,0)]]]
 | some p=>∃(x y z u v:D),env=[.str t,.aw 11 [(0,0)],.bool true,.aw 10 [(0,0)],x,y,z,u,v,.box (cM p.1 p.2.dt p.2.tx 0),.box [.int .i64 p.2.gd],.box [.aw 9 [(0,0)]]]
def ig(s:aa):Option af->af×Bool
 | some d=>(d,d.dP s)
 | none=>(af.zero,false)
theorem CL(s:aa)(o:Option af):sH s o=.au [.agg [ints (ig s o).1.sz,aI (ig s o).1.mp],.bool (ig s o).2]:=by
 cases o<;>rfl
theorem Xi{K:List D->Prop}{E:Ex}(t:List UInt8)(ht:t.length<=1048576)
  (hK:∀(s:aa)(n:Int)(b:Bool),b=(cL t).isSome->(∀p,cL t=some p->s=p.1/\n=p.2)->K [.str t,.aw 11 [(0,0)],.bool b,.aw 10 [(0,0)],.dead,.dead,.dead,.dead,.dead,.box (cM s [] [] 0),.box [.int .i64 n],.box [.aw 9 [(0,0)]]]) :
  bF Go.Proofs.Tryz.prog wF K E [.str t,.aw 11 [(0,0)],.bool false,.aw 10 [(0,0)],.dead,.dead,.dead,.dead,.dead,.box (cM ⟨0,[],[],[],[]⟩ [] [] 0),.box [.int .i64 0],.box [.aw 9 [(0,0)]]]:=by
 unfold wF;have hhd:=HF t (by omega);unfold cM at hK|-
 simp only[go_sem]
 with_reducible (repeat' apply And.intro)
 all_goals(
  refine bf [] false hhd ?_;rintro _ _ ⟨rfl,s,n,b,rfl,hb,hp⟩;refine⟨(by repeat(first | exact trivial | refine⟨(fun h=>by cases h),?_⟩)),(fun h=>by cases h),?_⟩
  simp only[go_sem])
 all_goals exact hK _ _ _ hb hp
theorem Xh{K:List D->Prop}{E:Ex}(t:List UInt8)(s:aa)(hso:cQ s){n:Int}
  (hK:K [.str t,.aw 11 [(0,0)],.bool true,.aw 10 [(0,0)],.dead,.dead,.dead,.dead,.dead,.box (cM s [bW s] [] 0),.box [.int .i64 n],.box [.aw 9 [(0,0)]]]) :
  bF Go.Proofs.Tryz.prog wJ K E [.str t,.aw 11 [(0,0)],.bool true,.aw 10 [(0,0)],.dead,.dead,.dead,.dead,.dead,.box (cM s [] [] 0),.box [.int .i64 n],.box [.aw 9 [(0,0)]]]:=by
 unfold wJ;unfold cM at hK|-
 simp only[go_sem]
 with_reducible (repeat' apply And.intro)
 all_goals(
  refine qE (bs:=[.ptr s.cells]) (Ux s hso.n0 hso.n8 hso.f8) rfl ⟨.inr ⟨5,_,rfl,rfl⟩,trivial⟩ (.inl (rk _)) ?_
  simp only[go_sem])
 all_goals exact hK
theorem Xg{K:List D->Prop}{E:Ex}(t:List UInt8)(s:aa)(H:Hs)(l:List ah){b:Bool}{e g:Int}(hok:s.ok=true)(hd:br s H.last)(h0 : 0<H.dt.length)(hl:H.dt.length<=4294966000)
  (hK:K [.str t,.aw 11 [(0,0)],.bool b,.aw 10 [(0,0)],.o (ae ah.d ah.zero l),.int .i64 e,.bool true,.box [.o (ints (ig s (af.all s H.last l)).1.sz),.o (aI (ig s (af.all s H.last l)).1.mp)],.bool (ig s (af.all s H.last l)).2,.box (cM s H.dt H.tx 0),.box [.int .i64 g],.box [.aw 9 [(0,0)]]]) :
  bF Go.Proofs.Tryz.prog wG K E [.str t,.aw 11 [(0,0)],.bool b,.aw 10 [(0,0)],.o (ae ah.d ah.zero l),.int .i64 e,.bool true,.dead,.dead,.box (cM s H.dt H.tx 0),.box [.int .i64 g],.box [.aw 9 [(0,0)]]]:=by
 unfold wG;have hnow:=UJ s H.dt H.tx 0 h0 hl;have hafter:=zq s H.last l hok hd;rw[CL] at hafter;generalize ig s (af.all s H.last l)=q at hafter hK;unfold cM at hnow hK|-
 simp only[go_sem]
 with_reducible (repeat' apply And.intro)
 all_goals(
  refine en [9] false hnow ?_;simp only[go_sem];refine qE (bs:=[af.d H.last,.ptr s.cells,ae ah.d ah.zero l]) hafter rfl ⟨.inl rfl,.inr ⟨5,_,rfl,rfl⟩,.inl rfl,trivial⟩ (.inl (by simp only[D.ba,cB,bZ,ff,Bool.and_self])) ?_
  simp only[go_sem])
 all_goals exact hK
theorem Xk{K:List D->Prop}{E:Ex}(t:List UInt8)(s:aa)(H:Hs)(l:List ah)(d:af){b:Bool}{e g:Int}(hl:H.dt.length<=1048576)
  (hK:K [.str t,.aw 11 [(0,0)],.bool b,.aw 10 [(0,0)],.o (ae ah.d ah.zero l),.int .i64 e,.bool true,.box [.o .dead,.o .dead],.bool true,.box (cM s (H.dt++[d]) H.tx 0),.box [.int .i64 g],.box [.aw 9 [(0,0)]]]) :
  bF Go.Proofs.Tryz.prog wH K E [.str t,.aw 11 [(0,0)],.bool b,.aw 10 [(0,0)],.o (ae ah.d ah.zero l),.int .i64 e,.bool true,.box [.o (ints d.sz),.o (aI d.mp)],.bool true,.box (cM s H.dt H.tx 0),.box [.int .i64 g],.box [.aw 9 [(0,0)]]]:=by
 unfold wH;unfold cM at hK|-
 simp only[go_sem]
 with_reducible (repeat' apply And.intro)
 all_goals first | omega | exact hK
theorem Xl{K:List D->Prop}{E:Ex}(t:List UInt8)(s:aa)(H:Hs)(l:List ah)(dt:List af){b:Bool}{e g:Int}(hl:H.tx.length<=1048576)
  (hK:K [.str t,.aw 11 [(0,0)],.bool b,.aw 10 [(0,0)],.dead,.int .i64 e,.bool true,.box [.o .dead,.o .dead],.bool true,.box (cM s dt (H.tx++[l]) 0),.box [.int .i64 g],.box [.aw 9 [(0,0)]]]) :
  bF Go.Proofs.Tryz.prog wI K E [.str t,.aw 11 [(0,0)],.bool b,.aw 10 [(0,0)],.o (ae ah.d ah.zero l),.int .i64 e,.bool true,.box [.o .dead,.o .dead],.bool true,.box (cM s dt H.tx 0),.box [.int .i64 g],.box [.aw 9 [(0,0)]]]:=by
 unfold wI;unfold cM at hK|-
 simp only[go_sem]
 with_reducible (repeat' apply And.intro)
 all_goals first | omega | exact hK
end Go.D3
