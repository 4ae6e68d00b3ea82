/- CONTRACTS: a journal is read,the program's side: the part behind the first steps. -/
import Derived.Test.YtpjbamibcngihaaGreatDoorGAU
import Derived.Test.YtpjbamibcngihaaGreatDoorGBN
namespace Go.D3
open Go
set_option maxHeartbeats 4000000
set_option maxRecDepth 100000
def uD:Nat->Code->Code
 | 0,c=>c
 | n+1,.seq _ b=>uD n b
 | _+1,c=>c
def vB:C := (.alt [] (.two 0 2 [1,2,0,3,4,5,6,7,8,9,10,11] (.two 6 9 [0,1,2,3,4,5,7,8,9,6,10,11] (.two 5 9 [0,1,2,3,4,6,7,8,9,5,10,11] (.leaf (oL [.ld (.v 1),.m 0,.dyn (.k (.fn 43 [])) [(.t 1)],.n 2,.ext 0 (.t 3),.ext 1 (.t 3),.ext 2 (.t 3),.bC (.t 0),.fA 0 (.t 7),.bB 5 (.t 8) (.t 4),.st (.v 3) (.t 5),.a 2 6]) []) (.leaf (oL [.ld (.v 1),.m 0,.dyn (.k (.fn 43 [])) [(.t 1)],.n 2,.ext 0 (.t 3),.ext 2 (.t 3),.bC (.t 0),.fA 0 (.t 6),.bB 5 (.t 7) (.t 4),.ext 1 (.t 3),.st (.v 3) (.t 9),.a 2 5]) [])) (.two 5 8 [0,1,2,3,4,6,7,8,5,9,10,11] (.two 9 10 [0,1,2,3,4,5,6,7,8,10,9,11] (.leaf (oL [.ld (.v 1),.m 0,.dyn (.k (.fn 43 [])) [(.t 1)],.n 2,.ext 0 (.t 3),.ext 1 (.t 3),.bC (.t 0),.fA 0 (.t 6),.bB 5 (.t 7) (.t 4),.ext 2 (.t 3),.st (.v 3) (.t 5),.a 2 9]) []) (.leaf (oL [.ld (.v 1),.m 0,.dyn (.k (.fn 43 [])) [(.t 1)],.n 2,.ext 0 (.t 3),.ext 1 (.t 3),.bC (.t 0),.fA 0 (.t 6),.bB 5 (.t 7) (.t 4),.st (.v 3) (.t 5),.ext 2 (.t 3),.a 2 10]) [])) (.two 9 10 [0,1,2,3,4,5,6,7,8,10,9,11] (.leaf (oL [.ld (.v 1),.m 0,.dyn (.k (.fn 43 [])) [(.t 1)],.n 2,.ext 0 (.t 3),.bC (.t 0),.fA 0 (.t 5),.bB 5 (.t 6) (.t 4),.ext 1 (.t 3),.ext 2 (.t 3),.st (.v 3) (.t 8),.a 2 9]) []) (.leaf (oL [.ld (.v 1),.m 0,.dyn (.k (.fn 43 [])) [(.t 1)],.n 2,.ext 0 (.t 3),.bC (.t 0),.fA 0 (.t 5),.bB 5 (.t 6) (.t 4),.ext 1 (.t 3),.st (.v 3) (.t 8),.ext 2 (.t 3),.a 2 10]) [])))) (.two 6 9 [0,1,2,3,4,5,7,8,9,6,10,11] (.two 5 9 [0,1,2,3,4,6,7,8,9,5,10,11] (.leaf (oL [.m 0,.dyn (.k (.fn 43 [])) [(.t 0)],.ld (.v 1),.n 1,.ext 0 (.t 3),.ext 1 (.t 3),.ext 2 (.t 3),.bC (.t 2),.fA 0 (.t 7),.bB 5 (.t 8) (.t 4),.st (.v 3) (.t 5),.a 2 6]) []) (.leaf (oL [.m 0,.dyn (.k (.fn 43 [])) [(.t 0)],.ld (.v 1),.n 1,.ext 0 (.t 3),.ext 2 (.t 3),.bC (.t 2),.fA 0 (.t 6),.bB 5 (.t 7) (.t 4),.ext 1 (.t 3),.st (.v 3) (.t 9),.a 2 5]) [])) (.two 5 8 [0,1,2,3,4,6,7,8,5,9,10,11] (.two 9 10 [0,1,2,3,4,5,6,7,8,10,9,11] (.leaf (oL [.m 0,.dyn (.k (.fn 43 [])) [(.t 0)],.ld (.v 1),.n 1,.ext 0 (.t 3),.ext 1 (.t 3),.bC (.t 2),.fA 0 (.t 6),.bB 5 (.t 7) (.t 4),.ext 2 (.t 3),.st (.v 3) (.t 5),.a 2 9]) []) (.leaf (oL [.m 0,.dyn (.k (.fn 43 [])) [(.t 0)],.ld (.v 1),.n 1,.ext 0 (.t 3),.ext 1 (.t 3),.bC (.t 2),.fA 0 (.t 6),.bB 5 (.t 7) (.t 4),.st (.v 3) (.t 5),.ext 2 (.t 3),.a 2 10]) [])) (.two 9 10 [0,1,2,3,4,5,6,7,8,10,9,11] (.leaf (oL [.m 0,.dyn (.k (.fn 43 [])) [(.t 0)],.ld (.v 1),.n 1,.ext 0 (.t 3),.bC (.t 2),.fA 0 (.t 5),.bB 5 (.t 6) (.t 4),.ext 1 (.t 3),.ext 2 (.t 3),.st (.v 3) (.t 8),.a 2 9]) []) (.leaf (oL [.m 0,.dyn (.k (.fn 43 [])) [(.t 0)],.ld (.v 1),.n 1,.ext 0 (.t 3),.bC (.t 2),.fA 0 (.t 5),.bB 5 (.t 6) (.t 4),.ext 1 (.t 3),.st (.v 3) (.t 8),.ext 2 (.t 3),.a 2 10]) []))))))
def vz:C := (.alt [7] (.two 1 2 [0,2,1,3,4,5,6,7,8,9,10,11,12] (.two 1 10 [0,5,10,1,2,3,4,6,7,8,9,11,12] (.two 9 11 [0,1,2,3,4,5,6,7,8,10,11,9,12] (.leaf (oL [.m 4,.ld (.v 1),.dyn (.k (.fn 35 [])) [(.t 1)],.ld (.v 1),.bC (.t 3),.fA 0 (.t 4),.call 39 [(.t 2),(.t 5),(.t 0)],.n 6,.ext 0 (.t 7),.ext 1 (.t 7),.cn [.aB (.int .i64 0),.aB (ints [])],.bB 2 (.t 10) (.t 8),.a 8 9]) [(7,10)]) (.leaf (oL [.m 4,.ld (.v 1),.dyn (.k (.fn 35 [])) [(.t 1)],.ld (.v 1),.bC (.t 3),.fA 0 (.t 4),.call 39 [(.t 2),(.t 5),(.t 0)],.n 6,.ext 0 (.t 7),.cn [.aB (.int .i64 0),.aB (ints [])],.bB 2 (.t 9) (.t 8),.ext 1 (.t 7),.a 8 11]) [(7,9)])) (.two 10 11 [0,1,2,3,4,5,6,7,8,9,11,10,12] (.leaf (oL [.m 4,.ld (.v 1),.cn [.aB (.int .i64 0),.aB (ints [])],.dyn (.k (.fn 35 [])) [(.t 1)],.ld (.v 1),.bC (.t 4),.fA 0 (.t 5),.call 39 [(.t 3),(.t 6),(.t 0)],.n 7,.ext 0 (.t 8),.ext 1 (.t 8),.bB 2 (.t 2) (.t 9),.a 8 10]) [(7,2)]) (.leaf (oL [.m 4,.ld (.v 1),.cn [.aB (.int .i64 0),.aB (ints [])],.dyn (.k (.fn 35 [])) [(.t 1)],.ld (.v 1),.bC (.t 4),.fA 0 (.t 5),.call 39 [(.t 3),(.t 6),(.t 0)],.n 7,.ext 0 (.t 8),.bB 2 (.t 2) (.t 9),.ext 1 (.t 8),.a 8 11]) [(7,2)]))) (.two 2 3 [0,1,3,2,4,5,6,7,8,9,10,11,12] (.two 2 10 [0,1,5,10,2,3,4,6,7,8,9,11,12] (.two 9 11 [0,1,2,3,4,5,6,7,8,10,11,9,12] (.leaf (oL [.m 4,.ld (.v 1),.ld (.v 1),.dyn (.k (.fn 35 [])) [(.t 1)],.bC (.t 2),.fA 0 (.t 4),.call 39 [(.t 3),(.t 5),(.t 0)],.n 6,.ext 0 (.t 7),.ext 1 (.t 7),.cn [.aB (.int .i64 0),.aB (ints [])],.bB 2 (.t 10) (.t 8),.a 8 9]) [(7,10)]) (.leaf (oL [.m 4,.ld (.v 1),.ld (.v 1),.dyn (.k (.fn 35 [])) [(.t 1)],.bC (.t 2),.fA 0 (.t 4),.call 39 [(.t 3),(.t 5),(.t 0)],.n 6,.ext 0 (.t 7),.cn [.aB (.int .i64 0),.aB (ints [])],.bB 2 (.t 9) (.t 8),.ext 1 (.t 7),.a 8 11]) [(7,9)])) (.two 10 11 [0,1,2,3,4,5,6,7,8,9,11,10,12] (.leaf (oL [.m 4,.ld (.v 1),.ld (.v 1),.cn [.aB (.int .i64 0),.aB (ints [])],.dyn (.k (.fn 35 [])) [(.t 1)],.bC (.t 2),.fA 0 (.t 5),.call 39 [(.t 4),(.t 6),(.t 0)],.n 7,.ext 0 (.t 8),.ext 1 (.t 8),.bB 2 (.t 3) (.t 9),.a 8 10]) [(7,3)]) (.leaf (oL [.m 4,.ld (.v 1),.ld (.v 1),.cn [.aB (.int .i64 0),.aB (ints [])],.dyn (.k (.fn 35 [])) [(.t 1)],.bC (.t 2),.fA 0 (.t 5),.call 39 [(.t 4),(.t 6),(.t 0)],.n 7,.ext 0 (.t 8),.bB 2 (.t 3) (.t 9),.ext 1 (.t 8),.a 8 11]) [(7,3)]))) (.two 3 4 [0,1,2,4,3,5,6,7,8,9,10,11,12] (.two 3 10 [0,1,2,5,10,3,4,6,7,8,9,11,12] (.two 9 11 [0,1,2,3,4,5,6,7,8,10,11,9,12] (.leaf (oL [.m 4,.ld (.v 1),.ld (.v 1),.bC (.t 2),.dyn (.k (.fn 35 [])) [(.t 1)],.fA 0 (.t 3),.call 39 [(.t 4),(.t 5),(.t 0)],.n 6,.ext 0 (.t 7),.ext 1 (.t 7),.cn [.aB (.int .i64 0),.aB (ints [])],.bB 2 (.t 10) (.t 8),.a 8 9]) [(7,10)]) (.leaf (oL [.m 4,.ld (.v 1),.ld (.v 1),.bC (.t 2),.dyn (.k (.fn 35 [])) [(.t 1)],.fA 0 (.t 3),.call 39 [(.t 4),(.t 5),(.t 0)],.n 6,.ext 0 (.t 7),.cn [.aB (.int .i64 0),.aB (ints [])],.bB 2 (.t 9) (.t 8),.ext 1 (.t 7),.a 8 11]) [(7,9)])) (.two 10 11 [0,1,2,3,4,5,6,7,8,9,11,10,12] (.leaf (oL [.m 4,.ld (.v 1),.ld (.v 1),.bC (.t 2),.cn [.aB (.int .i64 0),.aB (ints [])],.dyn (.k (.fn 35 [])) [(.t 1)],.fA 0 (.t 3),.call 39 [(.t 5),(.t 6),(.t 0)],.n 7,.ext 0 (.t 8),.ext 1 (.t 8),.bB 2 (.t 4) (.t 9),.a 8 10]) [(7,4)]) (.leaf (oL [.m 4,.ld (.v 1),.ld (.v 1),.bC (.t 2),.cn [.aB (.int .i64 0),.aB (ints [])],.dyn (.k (.fn 35 [])) [(.t 1)],.fA 0 (.t 3),.call 39 [(.t 5),(.t 6),(.t 0)],.n 7,.ext 0 (.t 8),.bB 2 (.t 4) (.t 9),.ext 1 (.t 8),.a 8 11]) [(7,4)]))) (.two 4 10 [0,1,2,3,5,10,4,6,7,8,9,11,12] (.two 9 11 [0,1,2,3,4,5,6,7,8,10,11,9,12] (.leaf (oL [.m 4,.ld (.v 1),.ld (.v 1),.bC (.t 2),.fA 0 (.t 3),.dyn (.k (.fn 35 [])) [(.t 1)],.call 39 [(.t 5),(.t 4),(.t 0)],.n 6,.ext 0 (.t 7),.ext 1 (.t 7),.cn [.aB (.int .i64 0),.aB (ints [])],.bB 2 (.t 10) (.t 8),.a 8 9]) [(7,10)]) (.leaf (oL [.m 4,.ld (.v 1),.ld (.v 1),.bC (.t 2),.fA 0 (.t 3),.dyn (.k (.fn 35 [])) [(.t 1)],.call 39 [(.t 5),(.t 4),(.t 0)],.n 6,.ext 0 (.t 7),.cn [.aB (.int .i64 0),.aB (ints [])],.bB 2 (.t 9) (.t 8),.ext 1 (.t 7),.a 8 11]) [(7,9)])) (.two 10 11 [0,1,2,3,4,5,6,7,8,9,11,10,12] (.leaf (oL [.m 4,.ld (.v 1),.ld (.v 1),.bC (.t 2),.fA 0 (.t 3),.cn [.aB (.int .i64 0),.aB (ints [])],.dyn (.k (.fn 35 [])) [(.t 1)],.call 39 [(.t 6),(.t 4),(.t 0)],.n 7,.ext 0 (.t 8),.ext 1 (.t 8),.bB 2 (.t 5) (.t 9),.a 8 10]) [(7,5)]) (.leaf (oL [.m 4,.ld (.v 1),.ld (.v 1),.bC (.t 2),.fA 0 (.t 3),.cn [.aB (.int .i64 0),.aB (ints [])],.dyn (.k (.fn 35 [])) [(.t 1)],.call 39 [(.t 6),(.t 4),(.t 0)],.n 7,.ext 0 (.t 8),.bB 2 (.t 5) (.t 9),.ext 1 (.t 8),.a 8 11]) [(7,5)])))))))
def vA:C := (.alt [] (.two 0 7 [1,2,3,4,5,6,7,0,8,9,10] (.leaf (oL [.ld (.v 1),.ld (.v 1),.bC (.t 1),.fA 5 (.t 2),.ld (.t 3),.df 2 (.v 7),.aQ (.agg [ints [],aK []]) 1 [(0,(.t 5))],.app 2 48 (.t 4) (.t 6),.bC (.t 0),.fA 5 (.t 8),.st (.t 9) (.t 7)]) []) (.leaf (oL [.ld (.v 1),.bC (.t 0),.fA 5 (.t 1),.ld (.t 2),.df 2 (.v 7),.aQ (.agg [ints [],aK []]) 1 [(0,(.t 4))],.app 2 48 (.t 3) (.t 5),.ld (.v 1),.bC (.t 7),.fA 5 (.t 8),.st (.t 9) (.t 6)]) [])))
def vy:C := (.alt [] (.two 0 7 [1,2,3,4,5,6,7,0,8,9,10] (.leaf (oL [.ld (.v 1),.ld (.v 1),.bC (.t 1),.fA 6 (.t 2),.ld (.t 3),.m 4,.aQ (.slice (.agg [.int .i64 0,.int .i64 0,.int .i64 0,.int .i64 0]) []) 1 [(0,(.t 5))],.app 1 24 (.t 4) (.t 6),.bC (.t 0),.fA 6 (.t 8),.st (.t 9) (.t 7)]) []) (.leaf (oL [.ld (.v 1),.bC (.t 0),.fA 6 (.t 1),.ld (.t 2),.m 4,.aQ (.slice (.agg [.int .i64 0,.int .i64 0,.int .i64 0,.int .i64 0]) []) 1 [(0,(.t 4))],.app 1 24 (.t 3) (.t 5),.ld (.v 1),.bC (.t 7),.fA 6 (.t 8),.st (.t 9) (.t 6)]) [])))
def vC:C := (.alt [] (.two 0 5 [1,2,3,4,5,0,6,7,8] (.leaf (oL [.ld (.v 1),.ld (.v 1),.bC (.t 1),.fA 0 (.t 2),.call 86 [(.t 3)],.jC (.agg [ints [],aK []]) (.t 4),.bC (.t 0),.fA 5 (.t 6),.st (.t 7) (.t 5)]) []) (.leaf (oL [.ld (.v 1),.bC (.t 0),.fA 0 (.t 1),.call 86 [(.t 2)],.jC (.agg [ints [],aK []]) (.t 3),.ld (.v 1),.bC (.t 5),.fA 5 (.t 6),.st (.t 7) (.t 4)]) [])))
def vF:C := (.seq vB (.seq (.di [] (oL [.m 2,.not (.t 0)]) [] (.t 1) (.seq (.u [.ld (.v 1),.iq 1 (.v 1) (.t 0),.bP 2 (.k (.bool false))]) .ret) .skip) (.seq vC (.block 0 (.loop (.block 1 (.seq (.u [.m 0,.ld (.v 3),.call 87 [(.t 0),(.t 1)],.n 2,.ext 0 (.t 3),.ext 1 (.t 3),.ext 2 (.t 3),.a 4 4,.a 5 5,.a 6 6]) (.seq (.di [] (oL [.m 6,.not (.t 0)]) [] (.t 1) (.seq (.u [.ld (.v 1),.iq 1 (.v 1) (.t 0),.bP 2 (.k (.bool true))]) .ret) .skip) (.seq vz (.seq (.di [] (oL [.m 8,.not (.t 0)]) [] (.t 1) (.seq (.u [.ld (.v 1),.iq 1 (.v 1) (.t 0),.bP 2 (.k (.bool true))]) .ret) .skip) (.seq vA (.seq vy (.u [.m 5,.st (.v 3) (.t 0)])))))))))))))
def J9:List Nat:=[0,2,3,4,5,6,7,8,9]
theorem J6:cw Go.Proofs.Tryz.prog 77 J9 (uD 4 (Go.Proofs.Tryz.f59.body.getD .skip)) vF=true:=by decide +kernel
def rz(t:List UInt8)(env:List D):Prop :=
 match bO t with
 | none=>∃(s:aa)(n:Int)(x y z u v:D),env=[.str t,.av 11 [(0,0)],.bool false,.av 10 [(0,0)],x,y,z,u,v,.box (cG s [] [] 0),.box [.int .i64 n],.box [.av 9 [(0,0)]]]
 | some p=>∃(x y z u v:D),env=[.str t,.av 11 [(0,0)],.bool true,.av 10 [(0,0)],x,y,z,u,v,.box (cG p.1 p.2.dt p.2.tx 0),.box [.int .i64 p.2.gd],.box [.av 9 [(0,0)]]]
def jv(s:aa):Option af->af×Bool
 | some d=>(d,d.fM s)
 | none=>(af.zero,false)
theorem UF(s:aa)(o:Option af):Bb s o=.au [.agg [ints (jv s o).1.sz,aK (jv s o).1.mp],.bool (jv s o).2]:=by
 cases o<;>rfl
theorem SI{K:List D->Prop}{E:Ex}(t:List UInt8)(ht:t.length<=1048576)
  (hK:∀(s:aa)(n:Int)(b:Bool),b=(dw t).isSome->(∀p,dw t=some p->s=p.1/\n=p.2)->K [.str t,.av 11 [(0,0)],.bool b,.av 10 [(0,0)],.dead,.dead,.dead,.dead,.dead,.box (cG s [] [] 0),.box [.int .i64 n],.box [.av 9 [(0,0)]]]) :
  bA Go.Proofs.Tryz.prog vB K E [.str t,.av 11 [(0,0)],.bool false,.av 10 [(0,0)],.dead,.dead,.dead,.dead,.dead,.box (cG ⟨0,[],[],[],[]⟩ [] [] 0),.box [.int .i64 0],.box [.av 9 [(0,0)]]]:=by
 unfold vB;have hhd:=J4 t (by omega);unfold cG at hK|-
 simp only[go_sem]
 with_reducible (repeat' apply And.intro)
 all_goals(
  refine bm [] false hhd ?_;rintro _ _ ⟨rfl,s,n,b,rfl,hb,hp⟩;refine⟨(by repeat(first | exact trivial | refine⟨(fun h=>by cases h),?_⟩)),(fun h=>by cases h),?_⟩
  simp only[go_sem])
 all_goals exact hK _ _ _ hb hp
theorem QB{K:List D->Prop}{E:Ex}(t:List UInt8)(s:aa)(hso:dT s){n:Int}
  (hK:K [.str t,.av 11 [(0,0)],.bool true,.av 10 [(0,0)],.dead,.dead,.dead,.dead,.dead,.box (cG s [eE s] [] 0),.box [.int .i64 n],.box [.av 9 [(0,0)]]]) :
  bA Go.Proofs.Tryz.prog vC K E [.str t,.av 11 [(0,0)],.bool true,.av 10 [(0,0)],.dead,.dead,.dead,.dead,.dead,.box (cG s [] [] 0),.box [.int .i64 n],.box [.av 9 [(0,0)]]]:=by
 unfold vC;unfold cG at hK|-
 simp only[go_sem]
 with_reducible (repeat' apply And.intro)
 all_goals(
  refine HN (bs:=[.ptr s.cells]) (L8 s hso.n0 hso.n8 hso.f8) rfl ⟨.inr ⟨5,_,rfl,rfl⟩,trivial⟩ (.inl (uf _)) ?_
  simp only[go_sem])
 all_goals exact hK
theorem QX{K:List D->Prop}{E:Ex}(t:List UInt8)(s:aa)(H:Hs)(l:List ah){b:Bool}{e g:Int}(hok:s.ok=true)(hd:bX s H.last)(h0 : 0<H.dt.length)(hl:H.dt.length<=4294966000)
  (hK:K [.str t,.av 11 [(0,0)],.bool b,.av 10 [(0,0)],.o (ae ah.d ah.zero l),.int .i64 e,.bool true,.box [.o (ints (jv s (af.all s H.last l)).1.sz),.o (aK (jv s (af.all s H.last l)).1.mp)],.bool (jv s (af.all s H.last l)).2,.box (cG s H.dt H.tx 0),.box [.int .i64 g],.box [.av 9 [(0,0)]]]) :
  bA Go.Proofs.Tryz.prog vz K E [.str t,.av 11 [(0,0)],.bool b,.av 10 [(0,0)],.o (ae ah.d ah.zero l),.int .i64 e,.bool true,.dead,.dead,.box (cG s H.dt H.tx 0),.box [.int .i64 g],.box [.av 9 [(0,0)]]]:=by
 unfold vz;have hnow:=Qk s H.dt H.tx 0 h0 hl;have hafter:=KI s H.last l hok hd;rw[UF] at hafter;generalize jv s (af.all s H.last l)=q at hafter hK;unfold cG at hnow hK|-
 simp only[go_sem]
 with_reducible (repeat' apply And.intro)
 all_goals(
  refine eD [9] false hnow ?_;simp only[go_sem];refine HN (bs:=[af.d H.last,.ptr s.cells,ae ah.d ah.zero l]) hafter rfl ⟨.inl rfl,.inr ⟨5,_,rfl,rfl⟩,.inl rfl,trivial⟩ (.inl (by simp only[D.bl,dE,cW,jP,Bool.and_self])) ?_
  simp only[go_sem])
 all_goals exact hK
theorem OY{K:List D->Prop}{E:Ex}(t:List UInt8)(s:aa)(H:Hs)(l:List ah)(d:af){b:Bool}{e g:Int}(hl:H.dt.length<=1048576)
  (hK:K [.str t,.av 11 [(0,0)],.bool b,.av 10 [(0,0)],.o (ae ah.d ah.zero l),.int .i64 e,.bool true,.box [.o .dead,.o .dead],.bool true,.box (cG s (H.dt++[d]) H.tx 0),.box [.int .i64 g],.box [.av 9 [(0,0)]]]) :
  bA Go.Proofs.Tryz.prog vA K E [.str t,.av 11 [(0,0)],.bool b,.av 10 [(0,0)],.o (ae ah.d ah.zero l),.int .i64 e,.bool true,.box [.o (ints d.sz),.o (aK d.mp)],.bool true,.box (cG s H.dt H.tx 0),.box [.int .i64 g],.box [.av 9 [(0,0)]]]:=by
 unfold vA;unfold cG at hK|-
 simp only[go_sem]
 with_reducible (repeat' apply And.intro)
 all_goals first | omega | exact hK
theorem Uu{K:List D->Prop}{E:Ex}(t:List UInt8)(s:aa)(H:Hs)(l:List ah)(dt:List af){b:Bool}{e g:Int}(hl:H.tx.length<=1048576)
  (hK:K [.str t,.av 11 [(0,0)],.bool b,.av 10 [(0,0)],.dead,.int .i64 e,.bool true,.box [.o .dead,.o .dead],.bool true,.box (cG s dt (H.tx++[l]) 0),.box [.int .i64 g],.box [.av 9 [(0,0)]]]) :
  bA Go.Proofs.Tryz.prog vy K E [.str t,.av 11 [(0,0)],.bool b,.av 10 [(0,0)],.o (ae ah.d ah.zero l),.int .i64 e,.bool true,.box [.o .dead,.o .dead],.bool true,.box (cG s dt H.tx 0),.box [.int .i64 g],.box [.av 9 [(0,0)]]]:=by
 unfold vy;unfold cG at hK|-
 simp only[go_sem]
 with_reducible (repeat' apply And.intro)
 all_goals first | omega | exact hK
end Go.D3
