/- CONTRACTS: a journal is read, the program's side: the part behind the first steps, whole. -/
import Derived.Test.YtpnchponfnbmiaaGreatDoorGAZ
import Derived.Test.YtpnchponfnbmiaaGreatDoorGBC
import Derived.Test.YtpnchponfnbmiaaGreatDoorGAI
namespace Go.D3
open Go Proofs
set_option maxHeartbeats 4000000
set_option maxRecDepth 100000
def wX:Nat->Code->Code
 | 0,c=>c
 | n+1,.seq _ b=>wX n b
 | _+1,c=>c
def xR:C := (.alt [] (.two 0 2 [1,2,0,3,4,5,6,7,8,9,10,11] (.two 6 9 [0,1,2,3,4,5,7,8,9,6,10,11] (.two 5 9 [0,1,2,3,4,6,7,8,9,5,10,11] (.leaf (oL [.ld (.v 1),.m 0,.dyn (.k (.fn 132 [])) [(.t 1)],.n 2,.ext 0 (.t 3),.ext 1 (.t 3),.ext 2 (.t 3),.bD (.t 0),.fA 0 (.t 7),.bG 5 (.t 8) (.t 4),.st (.v 3) (.t 5),.a 2 6]) []) (.leaf (oL [.ld (.v 1),.m 0,.dyn (.k (.fn 132 [])) [(.t 1)],.n 2,.ext 0 (.t 3),.ext 2 (.t 3),.bD (.t 0),.fA 0 (.t 6),.bG 5 (.t 7) (.t 4),.ext 1 (.t 3),.st (.v 3) (.t 9),.a 2 5]) [])) (.two 5 8 [0,1,2,3,4,6,7,8,5,9,10,11] (.two 9 10 [0,1,2,3,4,5,6,7,8,10,9,11] (.leaf (oL [.ld (.v 1),.m 0,.dyn (.k (.fn 132 [])) [(.t 1)],.n 2,.ext 0 (.t 3),.ext 1 (.t 3),.bD (.t 0),.fA 0 (.t 6),.bG 5 (.t 7) (.t 4),.ext 2 (.t 3),.st (.v 3) (.t 5),.a 2 9]) []) (.leaf (oL [.ld (.v 1),.m 0,.dyn (.k (.fn 132 [])) [(.t 1)],.n 2,.ext 0 (.t 3),.ext 1 (.t 3),.bD (.t 0),.fA 0 (.t 6),.bG 5 (.t 7) (.t 4),.st (.v 3) (.t 5),.ext 2 (.t 3),.a 2 10]) [])) (.two 9 10 [0,1,2,3,4,5,6,7,8,10,9,11] (.leaf (oL [.ld (.v 1),.m 0,.dyn (.k (.fn 132 [])) [(.t 1)],.n 2,.ext 0 (.t 3),.bD (.t 0),.fA 0 (.t 5),.bG 5 (.t 6) (.t 4),.ext 1 (.t 3),.ext 2 (.t 3),.st (.v 3) (.t 8),.a 2 9]) []) (.leaf (oL [.ld (.v 1),.m 0,.dyn (.k (.fn 132 [])) [(.t 1)],.n 2,.ext 0 (.t 3),.bD (.t 0),.fA 0 (.t 5),.bG 5 (.t 6) (.t 4),.ext 1 (.t 3),.st (.v 3) (.t 8),.ext 2 (.t 3),.a 2 10]) [])))) (.two 6 9 [0,1,2,3,4,5,7,8,9,6,10,11] (.two 5 9 [0,1,2,3,4,6,7,8,9,5,10,11] (.leaf (oL [.m 0,.dyn (.k (.fn 132 [])) [(.t 0)],.ld (.v 1),.n 1,.ext 0 (.t 3),.ext 1 (.t 3),.ext 2 (.t 3),.bD (.t 2),.fA 0 (.t 7),.bG 5 (.t 8) (.t 4),.st (.v 3) (.t 5),.a 2 6]) []) (.leaf (oL [.m 0,.dyn (.k (.fn 132 [])) [(.t 0)],.ld (.v 1),.n 1,.ext 0 (.t 3),.ext 2 (.t 3),.bD (.t 2),.fA 0 (.t 6),.bG 5 (.t 7) (.t 4),.ext 1 (.t 3),.st (.v 3) (.t 9),.a 2 5]) [])) (.two 5 8 [0,1,2,3,4,6,7,8,5,9,10,11] (.two 9 10 [0,1,2,3,4,5,6,7,8,10,9,11] (.leaf (oL [.m 0,.dyn (.k (.fn 132 [])) [(.t 0)],.ld (.v 1),.n 1,.ext 0 (.t 3),.ext 1 (.t 3),.bD (.t 2),.fA 0 (.t 6),.bG 5 (.t 7) (.t 4),.ext 2 (.t 3),.st (.v 3) (.t 5),.a 2 9]) []) (.leaf (oL [.m 0,.dyn (.k (.fn 132 [])) [(.t 0)],.ld (.v 1),.n 1,.ext 0 (.t 3),.ext 1 (.t 3),.bD (.t 2),.fA 0 (.t 6),.bG 5 (.t 7) (.t 4),.st (.v 3) (.t 5),.ext 2 (.t 3),.a 2 10]) [])) (.two 9 10 [0,1,2,3,4,5,6,7,8,10,9,11] (.leaf (oL [.m 0,.dyn (.k (.fn 132 [])) [(.t 0)],.ld (.v 1),.n 1,.ext 0 (.t 3),.bD (.t 2),.fA 0 (.t 5),.bG 5 (.t 6) (.t 4),.ext 1 (.t 3),.ext 2 (.t 3),.st (.v 3) (.t 8),.a 2 9]) []) (.leaf (oL [.m 0,.dyn (.k (.fn 132 [])) [(.t 0)],.ld (.v 1),.n 1,.ext 0 (.t 3),.bD (.t 2),.fA 0 (.t 5),.bG 5 (.t 6) (.t 4),.ext 1 (.t 3),.st (.v 3) (.t 8),.ext 2 (.t 3),.a 2 10]) []))))))
def xS:C := (.alt [7] (.two 1 2 [0,2,1,3,4,5,6,7,8,9,10,11,12] (.two 1 10 [0,5,10,1,2,3,4,6,7,8,9,11,12] (.two 9 11 [0,1,2,3,4,5,6,7,8,10,11,9,12] (.leaf (oL [.m 4,.ld (.v 1),.dyn (.k (.fn 66 [])) [(.t 1)],.ld (.v 1),.bD (.t 3),.fA 0 (.t 4),.call 135 [(.t 2),(.t 5),(.t 0)],.n 6,.ext 0 (.t 7),.ext 1 (.t 7),.cB [.aB (.int .i64 0),.aB (ints [])],.bG 2 (.t 10) (.t 8),.a 8 9]) [(7,10)]) (.leaf (oL [.m 4,.ld (.v 1),.dyn (.k (.fn 66 [])) [(.t 1)],.ld (.v 1),.bD (.t 3),.fA 0 (.t 4),.call 135 [(.t 2),(.t 5),(.t 0)],.n 6,.ext 0 (.t 7),.cB [.aB (.int .i64 0),.aB (ints [])],.bG 2 (.t 9) (.t 8),.ext 1 (.t 7),.a 8 11]) [(7,9)])) (.two 10 11 [0,1,2,3,4,5,6,7,8,9,11,10,12] (.leaf (oL [.m 4,.ld (.v 1),.cB [.aB (.int .i64 0),.aB (ints [])],.dyn (.k (.fn 66 [])) [(.t 1)],.ld (.v 1),.bD (.t 4),.fA 0 (.t 5),.call 135 [(.t 3),(.t 6),(.t 0)],.n 7,.ext 0 (.t 8),.ext 1 (.t 8),.bG 2 (.t 2) (.t 9),.a 8 10]) [(7,2)]) (.leaf (oL [.m 4,.ld (.v 1),.cB [.aB (.int .i64 0),.aB (ints [])],.dyn (.k (.fn 66 [])) [(.t 1)],.ld (.v 1),.bD (.t 4),.fA 0 (.t 5),.call 135 [(.t 3),(.t 6),(.t 0)],.n 7,.ext 0 (.t 8),.bG 2 (.t 2) (.t 9),.ext 1 (.t 8),.a 8 11]) [(7,2)]))) (.two 2 3 [0,1,3,2,4,5,6,7,8,9,10,11,12] (.two 2 10 [0,1,5,10,2,3,4,6,7,8,9,11,12] (.two 9 11 [0,1,2,3,4,5,6,7,8,10,11,9,12] (.leaf (oL [.m 4,.ld (.v 1),.ld (.v 1),.dyn (.k (.fn 66 [])) [(.t 1)],.bD (.t 2),.fA 0 (.t 4),.call 135 [(.t 3),(.t 5),(.t 0)],.n 6,.ext 0 (.t 7),.ext 1 (.t 7),.cB [.aB (.int .i64 0),.aB (ints [])],.bG 2 (.t 10) (.t 8),.a 8 9]) [(7,10)]) (.leaf (oL [.m 4,.ld (.v 1),.ld (.v 1),.dyn (.k (.fn 66 [])) [(.t 1)],.bD (.t 2),.fA 0 (.t 4),.call 135 [(.t 3),(.t 5),(.t 0)],.n 6,.ext 0 (.t 7),.cB [.aB (.int .i64 0),.aB (ints [])],.bG 2 (.t 9) (.t 8),.ext 1 (.t 7),.a 8 11]) [(7,9)])) (.two 10 11 [0,1,2,3,4,5,6,7,8,9,11,10,12] (.leaf (oL [.m 4,.ld (.v 1),.ld (.v 1),.cB [.aB (.int .i64 0),.aB (ints [])],.dyn (.k (.fn 66 [])) [(.t 1)],.bD (.t 2),.fA 0 (.t 5),.call 135 [(.t 4),(.t 6),(.t 0)],.n 7,.ext 0 (.t 8),.ext 1 (.t 8),.bG 2 (.t 3) (.t 9),.a 8 10]) [(7,3)]) (.leaf (oL [.m 4,.ld (.v 1),.ld (.v 1),.cB [.aB (.int .i64 0),.aB (ints [])],.dyn (.k (.fn 66 [])) [(.t 1)],.bD (.t 2),.fA 0 (.t 5),.call 135 [(.t 4),(.t 6),(.t 0)],.n 7,.ext 0 (.t 8),.bG 2 (.t 3) (.t 9),.ext 1 (.t 8),.a 8 11]) [(7,3)]))) (.two 3 4 [0,1,2,4,3,5,6,7,8,9,10,11,12] (.two 3 10 [0,1,2,5,10,3,4,6,7,8,9,11,12] (.two 9 11 [0,1,2,3,4,5,6,7,8,10,11,9,12] (.leaf (oL [.m 4,.ld (.v 1),.ld (.v 1),.bD (.t 2),.dyn (.k (.fn 66 [])) [(.t 1)],.fA 0 (.t 3),.call 135 [(.t 4),(.t 5),(.t 0)],.n 6,.ext 0 (.t 7),.ext 1 (.t 7),.cB [.aB (.int .i64 0),.aB (ints [])],.bG 2 (.t 10) (.t 8),.a 8 9]) [(7,10)]) (.leaf (oL [.m 4,.ld (.v 1),.ld (.v 1),.bD (.t 2),.dyn (.k (.fn 66 [])) [(.t 1)],.fA 0 (.t 3),.call 135 [(.t 4),(.t 5),(.t 0)],.n 6,.ext 0 (.t 7),.cB [.aB (.int .i64 0),.aB (ints [])],.bG 2 (.t 9) (.t 8),.ext 1 (.t 7),.a 8 11]) [(7,9)])) (.two 10 11 [0,1,2,3,4,5,6,7,8,9,11,10,12] (.leaf (oL [.m 4,.ld (.v 1),.ld (.v 1),.bD (.t 2),.cB [.aB (.int .i64 0),.aB (ints [])],.dyn (.k (.fn 66 [])) [(.t 1)],.fA 0 (.t 3),.call 135 [(.t 5),(.t 6),(.t 0)],.n 7,.ext 0 (.t 8),.ext 1 (.t 8),.bG 2 (.t 4) (.t 9),.a 8 10]) [(7,4)]) (.leaf (oL [.m 4,.ld (.v 1),.ld (.v 1),.bD (.t 2),.cB [.aB (.int .i64 0),.aB (ints [])],.dyn (.k (.fn 66 [])) [(.t 1)],.fA 0 (.t 3),.call 135 [(.t 5),(.t 6),(.t 0)],.n 7,.ext 0 (.t 8),.bG 2 (.t 4) (.t 9),.ext 1 (.t 8),.a 8 11]) [(7,4)]))) (.two 4 10 [0,1,2,3,5,10,4,6,7,8,9,11,12] (.two 9 11 [0,1,2,3,4,5,6,7,8,10,11,9,12] (.leaf (oL [.m 4,.ld (.v 1),.ld (.v 1),.bD (.t 2),.fA 0 (.t 3),.dyn (.k (.fn 66 [])) [(.t 1)],.call 135 [(.t 5),(.t 4),(.t 0)],.n 6,.ext 0 (.t 7),.ext 1 (.t 7),.cB [.aB (.int .i64 0),.aB (ints [])],.bG 2 (.t 10) (.t 8),.a 8 9]) [(7,10)]) (.leaf (oL [.m 4,.ld (.v 1),.ld (.v 1),.bD (.t 2),.fA 0 (.t 3),.dyn (.k (.fn 66 [])) [(.t 1)],.call 135 [(.t 5),(.t 4),(.t 0)],.n 6,.ext 0 (.t 7),.cB [.aB (.int .i64 0),.aB (ints [])],.bG 2 (.t 9) (.t 8),.ext 1 (.t 7),.a 8 11]) [(7,9)])) (.two 10 11 [0,1,2,3,4,5,6,7,8,9,11,10,12] (.leaf (oL [.m 4,.ld (.v 1),.ld (.v 1),.bD (.t 2),.fA 0 (.t 3),.cB [.aB (.int .i64 0),.aB (ints [])],.dyn (.k (.fn 66 [])) [(.t 1)],.call 135 [(.t 6),(.t 4),(.t 0)],.n 7,.ext 0 (.t 8),.ext 1 (.t 8),.bG 2 (.t 5) (.t 9),.a 8 10]) [(7,5)]) (.leaf (oL [.m 4,.ld (.v 1),.ld (.v 1),.bD (.t 2),.fA 0 (.t 3),.cB [.aB (.int .i64 0),.aB (ints [])],.dyn (.k (.fn 66 [])) [(.t 1)],.call 135 [(.t 6),(.t 4),(.t 0)],.n 7,.ext 0 (.t 8),.bG 2 (.t 5) (.t 9),.ext 1 (.t 8),.a 8 11]) [(7,5)])))))))
def xU:C := (.alt [] (.two 0 7 [1,2,3,4,5,6,7,0,8,9,10] (.leaf (oL [.ld (.v 1),.ld (.v 1),.bD (.t 1),.fA 5 (.t 2),.ld (.t 3),.ee 2 (.v 7),.ch (.agg [ints [],aF []]) 1 [(0,(.t 5))],.app 2 48 (.t 4) (.t 6),.bD (.t 0),.fA 5 (.t 8),.st (.t 9) (.t 7)]) []) (.leaf (oL [.ld (.v 1),.bD (.t 0),.fA 5 (.t 1),.ld (.t 2),.ee 2 (.v 7),.ch (.agg [ints [],aF []]) 1 [(0,(.t 4))],.app 2 48 (.t 3) (.t 5),.ld (.v 1),.bD (.t 7),.fA 5 (.t 8),.st (.t 9) (.t 6)]) [])))
def xV:C := (.alt [] (.two 0 7 [1,2,3,4,5,6,7,0,8,9,10] (.leaf (oL [.ld (.v 1),.ld (.v 1),.bD (.t 1),.fA 6 (.t 2),.ld (.t 3),.m 4,.ch (.slice (.agg [.int .i64 0,.int .i64 0,.int .i64 0,.int .i64 0]) []) 1 [(0,(.t 5))],.app 1 24 (.t 4) (.t 6),.bD (.t 0),.fA 6 (.t 8),.st (.t 9) (.t 7)]) []) (.leaf (oL [.ld (.v 1),.bD (.t 0),.fA 6 (.t 1),.ld (.t 2),.m 4,.ch (.slice (.agg [.int .i64 0,.int .i64 0,.int .i64 0,.int .i64 0]) []) 1 [(0,(.t 4))],.app 1 24 (.t 3) (.t 5),.ld (.v 1),.bD (.t 7),.fA 6 (.t 8),.st (.t 9) (.t 6)]) [])))
def xW:C := (.alt [] (.two 0 5 [1,2,3,4,5,0,6,7,8] (.leaf (oL [.ld (.v 1),.ld (.v 1),.bD (.t 1),.fA 0 (.t 2),.call 133 [(.t 3)],.jZ (.agg [ints [],aF []]) (.t 4),.bD (.t 0),.fA 5 (.t 6),.st (.t 7) (.t 5)]) []) (.leaf (oL [.ld (.v 1),.bD (.t 0),.fA 0 (.t 1),.call 133 [(.t 2)],.jZ (.agg [ints [],aF []]) (.t 3),.ld (.v 1),.bD (.t 5),.fA 5 (.t 6),.st (.t 7) (.t 4)]) [])))
def xQ:C := (.seq xR (.seq (.eF [] (oL [.m 2,.not (.t 0)]) [] (.t 1) (.seq (.u [.ld (.v 1),.jk 1 (.v 1) (.t 0),.bX 2 (.k (.bool false))]) .ret) .skip) (.seq xW (.block 0 (.loop (.block 1 (.seq (.u [.m 0,.ld (.v 3),.call 134 [(.t 0),(.t 1)],.n 2,.ext 0 (.t 3),.ext 1 (.t 3),.ext 2 (.t 3),.a 4 4,.a 5 5,.a 6 6]) (.seq (.eF [] (oL [.m 6,.not (.t 0)]) [] (.t 1) (.seq (.u [.ld (.v 1),.jk 1 (.v 1) (.t 0),.bX 2 (.k (.bool true))]) .ret) .skip) (.seq xS (.seq (.eF [] (oL [.m 8,.not (.t 0)]) [] (.t 1) (.seq (.u [.ld (.v 1),.jk 1 (.v 1) (.t 0),.bX 2 (.k (.bool true))]) .ret) .skip) (.seq xU (.seq xV (.u [.m 5,.st (.v 3) (.t 0)])))))))))))))
def aaR:List Nat:=[0,2,3,4,5,6,7,8,9]
theorem Ui:cw Tryz.prog 77 aaR (wX 4 (Tryz.f106.body.getD .skip)) xQ=true:=by decide +kernel
def tB(t:List UInt8)(env:List D):Prop :=
 match de t with
 | none=>∃(s:aa)(n:Int)(x y z u v:D),env=[.str t,.av 11 [(0,0)],.bool false,.av 10 [(0,0)],x,y,z,u,v,.box (cE s [] [] 0),.box [.int .i64 n],.box [.av 9 [(0,0)]]]
 | some p=>∃(x y z u v:D),env=[.str t,.av 11 [(0,0)],.bool true,.av 10 [(0,0)],x,y,z,u,v,.box (cE p.1 p.2.dt p.2.tx 0),.box [.int .i64 p.2.gd],.box [.av 9 [(0,0)]]]
def jW(s:aa):Option ak->ak×Bool
 | some d=>(d,d.fJ s)
 | none=>(ak.zero,false)
theorem Nu(s:aa)(o:Option ak):xy s o=.al [.agg [ints (jW s o).1.sz,aF (jW s o).1.mp],.bool (jW s o).2]:=by
 cases o<;>rfl
theorem abb{K:List D->Prop}{E:Ex}(t:List UInt8)(ht:t.length<=1048576)
  (hK:∀(s:aa)(n:Int)(b:Bool),b=(eU t).isSome->(∀p,eU t=some p->s=p.1/\n=p.2)->K [.str t,.av 11 [(0,0)],.bool b,.av 10 [(0,0)],.dead,.dead,.dead,.dead,.dead,.box (cE s [] [] 0),.box [.int .i64 n],.box [.av 9 [(0,0)]]]) :
  bA Tryz.prog xR K E [.str t,.av 11 [(0,0)],.bool false,.av 10 [(0,0)],.dead,.dead,.dead,.dead,.dead,.box (cE ⟨0,[],[],[],[]⟩ [] [] 0),.box [.int .i64 0],.box [.av 9 [(0,0)]]]:=by
 unfold xR;have hhd:=X2 t (by omega);unfold cE at hK|-
 simp only[go_sem]
 with_reducible (repeat' apply And.intro)
 all_goals(
  refine gP [] false hhd ?_;rintro _ _ ⟨rfl,s,n,b,rfl,hb,hp⟩;refine⟨(by repeat(first | exact trivial | refine⟨(fun h=>by cases h),?_⟩)),(fun h=>by cases h),?_⟩
  simp only[go_sem])
 all_goals exact hK _ _ _ hb hp
theorem aba{K:List D->Prop}{E:Ex}(t:List UInt8)(s:aa)(hso:di s){n:Int}
  (hK:K [.str t,.av 11 [(0,0)],.bool true,.av 10 [(0,0)],.dead,.dead,.dead,.dead,.dead,.box (cE s [dL s] [] 0),.box [.int .i64 n],.box [.av 9 [(0,0)]]]) :
  bA Tryz.prog xW K E [.str t,.av 11 [(0,0)],.bool true,.av 10 [(0,0)],.dead,.dead,.dead,.dead,.dead,.box (cE s [] [] 0),.box [.int .i64 n],.box [.av 9 [(0,0)]]]:=by
 unfold xW;unfold cE at hK|-
 simp only[go_sem]
 with_reducible (repeat' apply And.intro)
 all_goals(
  refine qA (bs:=[.ptr s.cells]) (X7 s hso.n0 hso.n8 hso.f8) rfl ⟨.inr ⟨5,_,rfl,rfl⟩,trivial⟩ (.inl (vX _)) ?_
  simp only[go_sem])
 all_goals exact hK
theorem aa9{K:List D->Prop}{E:Ex}(t:List UInt8)(s:aa)(H:Hs)(l:List az){b:Bool}{e g:Int}(hok:s.ok=true)(hd:dH s H.last)(h0 : 0<H.dt.length)(hl:H.dt.length<=4294966000)
  (hK:K [.str t,.av 11 [(0,0)],.bool b,.av 10 [(0,0)],.o (ae az.d az.zero l),.int .i64 e,.bool true,.box [.o (ints (jW s (ak.all s H.last l)).1.sz),.o (aF (jW s (ak.all s H.last l)).1.mp)],.bool (jW s (ak.all s H.last l)).2,.box (cE s H.dt H.tx 0),.box [.int .i64 g],.box [.av 9 [(0,0)]]]) :
  bA Tryz.prog xS K E [.str t,.av 11 [(0,0)],.bool b,.av 10 [(0,0)],.o (ae az.d az.zero l),.int .i64 e,.bool true,.dead,.dead,.box (cE s H.dt H.tx 0),.box [.int .i64 g],.box [.av 9 [(0,0)]]]:=by
 unfold xS;have hnow:=Ys s H.dt H.tx 0 h0 hl;have hafter:=XR s H.last l hok hd;rw[Nu] at hafter;generalize jW s (ak.all s H.last l)=q at hafter hK;unfold cE at hnow hK|-
 simp only[go_sem]
 with_reducible (repeat' apply And.intro)
 all_goals(
  refine jB [9] false hnow ?_;simp only[go_sem];refine qA (bs:=[ak.d H.last,.ptr s.cells,ae az.d az.zero l]) hafter rfl ⟨.inl rfl,.inr ⟨5,_,rfl,rfl⟩,.inl rfl,trivial⟩ (.inl (by simp only[D.a7,db,bT,mz,Bool.and_self])) ?_
  simp only[go_sem])
 all_goals exact hK
theorem abd{K:List D->Prop}{E:Ex}(t:List UInt8)(s:aa)(H:Hs)(l:List az)(d:ak){b:Bool}{e g:Int}(hl:H.dt.length<=1048576)
  (hK:K [.str t,.av 11 [(0,0)],.bool b,.av 10 [(0,0)],.o (ae az.d az.zero l),.int .i64 e,.bool true,.box [.o .dead,.o .dead],.bool true,.box (cE s (H.dt++[d]) H.tx 0),.box [.int .i64 g],.box [.av 9 [(0,0)]]]) :
  bA Tryz.prog xU K E [.str t,.av 11 [(0,0)],.bool b,.av 10 [(0,0)],.o (ae az.d az.zero l),.int .i64 e,.bool true,.box [.o (ints d.sz),.o (aF d.mp)],.bool true,.box (cE s H.dt H.tx 0),.box [.int .i64 g],.box [.av 9 [(0,0)]]]:=by
 unfold xU;unfold cE at hK|-
 simp only[go_sem]
 with_reducible (repeat' apply And.intro)
 all_goals first | omega | exact hK
theorem abe{K:List D->Prop}{E:Ex}(t:List UInt8)(s:aa)(H:Hs)(l:List az)(dt:List ak){b:Bool}{e g:Int}(hl:H.tx.length<=1048576)
  (hK:K [.str t,.av 11 [(0,0)],.bool b,.av 10 [(0,0)],.dead,.int .i64 e,.bool true,.box [.o .dead,.o .dead],.bool true,.box (cE s dt (H.tx++[l]) 0),.box [.int .i64 g],.box [.av 9 [(0,0)]]]) :
  bA Tryz.prog xV K E [.str t,.av 11 [(0,0)],.bool b,.av 10 [(0,0)],.o (ae az.d az.zero l),.int .i64 e,.bool true,.box [.o .dead,.o .dead],.bool true,.box (cE s dt H.tx 0),.box [.int .i64 g],.box [.av 9 [(0,0)]]]:=by
 unfold xV;unfold cE at hK|-
 simp only[go_sem]
 with_reducible (repeat' apply And.intro)
 all_goals first | omega | exact hK
end Go.D3
namespace Go.D3
open Go Proofs
set_option maxRecDepth 100000
set_option maxHeartbeats 4000000
theorem abc(t:List UInt8)(ht:t.length<=1048576):bA Tryz.prog xQ (fun _=>False) ⟨fun _ _=>False,tB t⟩ [.str t,.av 11 [(0,0)],.bool false,.av 10 [(0,0)],.dead,.dead,.dead,.dead,.dead,.box (cE ⟨0,[],[],[],[]⟩ [] [] 0),.box [.int .i64 0],.box [.av 9 [(0,0)]]]:=by
 unfold xQ;simp only[go_sem];refine abb t ht fun s n b hb hp=>?_
 unfold cE;simp only[go_sem];refine⟨fun h=>?_,fun h=>?_⟩
 ·have hn:eU t=none:=by
   cases hh:eU t with
   | none=>rfl
   | some p=>rw[hb,hh] at h;cases h
  unfold tB de;rw[hn];exact⟨s,n,_,_,_,_,_,rfl⟩
 have hs:∃p,eU t=some p:=by
  cases hh:eU t with
  | none=>rw[hb,hh] at h;cases h
  | some p=>exact⟨p,rfl⟩
 obtain⟨p,hh⟩:=hs;obtain⟨rfl,rfl⟩:=hp p hh;obtain⟨hok,hpl⟩:=yO hh;have hso:=gw (fj hok).1;have hb':b=true:=by rw[hb,hh];rfl
 subst hb';clear hb hp h;refine aba t p.1 hso ?_;unfold cE;simp only[go_sem];refine aE [4,5,6,7,8] (fun(H:Hs)=>[(9,.box (cE p.1 H.dt H.tx 0)),(10,.box [.int .i64 H.gd])]) (fun H=>jq p.1 t H/\e8 p.1 t H.gd [] H=e8 p.1 t p.2 [] ⟨[dL p.1],[],p.2⟩) (fun H=>t.length-H.gd) ⟨[dL p.1],[],p.2⟩ (by simp only[go_sem];rfl) ⟨yS hso hpl,rfl⟩ rfl ?_;rintro H ⟨hH,hr⟩;have hgl:=hH.gl;have hdl:=hH.dl;have h6:=hH.t6;unfold cE;simp only[go_sem];refine an (X4 t H.gd (by omega) hgl) rfl (.inl (aaX _)) ?_;have hf:=aaY (t:=t) _ H.gd [] (Nat.le_refl _) (by decide);have hrx:=Zp (s:=p.1) (t:=t) (H:=H) _ H.gd [] (Nat.le_refl _)
 have stop:e8 p.1 t H.gd [] H=H->∀x y z u v,tB t [.str t,.av 11 [(0,0)],.bool true,.av 10 [(0,0)],x,y,z,u,v,.box (cE p.1 H.dt H.tx 0),.box [.int .i64 H.gd],.box [.av 9 [(0,0)]]]:=fun hg x y z u v=>by
  have e:de t=some (p.1,H):=by unfold de;rw[hh];show some (p.1,_)=_;rw[<-hr,hg]
  unfold tB;rw[e];exact⟨_,_,_,_,_,rfl⟩
 cases hx:lO t H.gd [] with
 | none =>
  rw[hx] at hrx;simp only[ue];simp only[go_sem];exact stop hrx _ _ _ _ _
 | some q =>
  obtain⟨l,e⟩:=q;rw[hx] at hrx;obtain⟨f1,f2,f3⟩:=hf l e hx;simp only[ue];simp only[go_sem];refine aa9 t p.1 H l hok hH.last (by omega) (by omega) ?_;unfold cE;simp only[go_sem];refine⟨fun h=>stop ?_ _ _ _ _ _,fun h=>?_⟩
  ·have hg:fB p.1 H.last l=none:=by
    unfold fB;cases hd:ak.all p.1 H.last l with
    | none=>rfl
    | some d =>
     rw[hd] at h;have h:d.fJ p.1=false:=by simpa[jW] using h
     rw[Option.bind_some,h,Bool.and_false];rfl
   rw[hrx];simp only[hg]
  ·obtain⟨d,hd,hw⟩:∃d,ak.all p.1 H.last l=some d/\d.fJ p.1=true:=by
    cases hd:ak.all p.1 H.last l with
    | none=>rw[hd] at h;cases h
    | some d =>
     rw[hd] at h;exact⟨d,rfl,by simpa[jW] using h⟩
   have hg:fB p.1 H.last l=some d:=by unfold fB;rw[hd,Option.bind_some,hw,decide_eq_true f1];rfl
   have ep:jW p.1 (ak.all p.1 H.last l)=(d,true):=by rw[hd,jW,hw]
   rw[ep];refine abd t p.1 H l d (by omega) ?_;refine abe (E:=⟨fun _ _=>False,fun _=>False⟩) t p.1 H l (H.dt++[d]) (by omega) ?_;unfold cE;simp only[go_sem];exact⟨H.push d l e,⟨hH.push hso hg f2 f3,by rw[<-hr,hrx];simp only[hg];rfl⟩,by show t.length-e<t.length-H.gd;omega,rfl⟩
end Go.D3
