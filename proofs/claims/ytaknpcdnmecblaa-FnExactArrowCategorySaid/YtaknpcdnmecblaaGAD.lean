/- CONTRACTS: functors made from their parts; the closure that collects them. -/
import Derived.Test.YtaknpcdnmecblaaGAB
import Derived.Test.YtaknpcdnmecblaaGAC
import Derived.Test.YtaknpcdnmecblaaHG
import Derived.Test.YtaknpcdnmecblaaGAA
namespace Go.D3
open Go Proofs
set_option maxHeartbeats 4000000
set_option maxRecDepth 100000
def xX:List Nat:=[0,2,3]
def DO:Sl:=al Try.types Try.f18 xX []
theorem J9:aX Try.prog Try.f18 xX DO 1=true:=by decide +kernel
theorem MS(c:Cat):aD Try.prog 18 [.v (.ptr c.cells)] (.bool c.cZ):=by
 refine a7 Try.func18 J9 ?_;unfold DO al xX;simp only[go_sem];refine aC (MT c) rfl (.inl rfl) ?_;simp only[go_sem];refine⟨fun h=>?_,fun h=>?_⟩
 ·unfold Cat.cZ;rw[Bool.not_eq_true'] at h;rw[h];rfl
 rw[Bool.not_eq_false'] at h;refine aC (MR c (Cat.tp.1 h)) rfl (.inl rfl) ?_;simp only[fd];simp only[go_sem];unfold Cat.cZ;rw[h];rfl
end Go.D3
namespace Go.D3
open Go Proofs
set_option maxHeartbeats 4000000
set_option maxRecDepth 100000
theorem ER(a:List Int):∀e∈a.map (D.int .i64),e.bX=true:=fun e he=>by
 obtain⟨x,_,rfl⟩:=List.mem_map.1 he;rfl
def x6:List Nat:=[0,2]
def DS:Sl:=al Try.types Try.f57 x6 []
theorem Kd:aX Try.prog Try.f57 x6 DS 1=true:=by decide +kernel
theorem oA(a:List Int)(hs:a.length<=1048576):aD Try.prog 57 [.v (ints a)] (ints a):=by
 refine a7 Try.func57 Kd ?_;unfold DS al x6;simp only[go_sem];exact⟨ER a,by rw[List.length_map];omega⟩
def yE:List Nat:=[0,2]
def Er:Sl:=al Try.types Try.f52 yE []
theorem KL:aX Try.prog Try.f52 yE Er 1=true:=by decide +kernel
theorem oB(a:List Int)(hs:a.length<=1048576):aD Try.prog 52 [.v (ints a)] (ints a):=by
 refine a7 Try.func52 KL ?_;unfold Er al yE;simp only[go_sem];exact⟨ER a,by rw[List.length_map];omega⟩
def x7:List Nat:=[0,2,3,5,9,10,11]
def DT:Sl:=al Try.types Try.f68 x7 []
theorem Ke:aX Try.prog Try.f68 x7 DT 1=true:=by decide +kernel
theorem MV(a:List (List Int))(hs:dk List.length a<=1048576):aD Try.prog 68 [.v (aB a)] (aB a):=by
 have hl:a.length<=1048576:=by unfold dk at hs;omega
 have hm:a.length<=maxLen:=by simp only[maxLen];omega
 refine a7 Try.func68 Ke ?_;unfold DT al x7;simp only[go_sem];refine⟨⟨by omega,by omega⟩,?_⟩;refine ba [3] (fun(i:Nat)=>[(6,.int .i64 i),(2,.o (aB (a.take i)))]) (fun i=>i<=a.length) (fun i=>a.length-i) 0 (by simp only[go_sem];rfl) (Nat.zero_le _) rfl ?_;rintro i hi;simp only[go_sem];refine⟨fun h=>⟨h,aC (oA (a.getD i []) (Nat.le_trans (uD (cost:=List.length) h _) hs)) rfl (.inl (ch _)) ?_⟩,fun h=>by rw[List.take_of_length_le (by omega)]⟩;simp only[go_sem];refine⟨by rw[List.length_take];omega,i+1,by omega,by omega,by rw[nh h [],aU h hm]⟩
def yF:List Nat:=[0,2,3,4]
def Es:Sl:=al Try.types Try.f67 yF []
theorem KM:aX Try.prog Try.f67 yF Es 1=true:=by decide +kernel
theorem No(a:List (List Int))(hs:dk List.length a<=1048576):aD Try.prog 67 [.v (aB a)] (aB a):=by
 have hl:a.length<=1048576:=by unfold dk at hs;omega
 have hm:a.length<=maxLen:=by simp only[maxLen];omega
 refine a7 Try.func67 KM ?_;unfold Es al yF;simp only[go_sem];refine ba [] (fun(i:Nat)=>[(3,.int .i64 i),(2,.o (aB (a.take i)))]) (fun i=>i<=a.length) (fun i=>a.length-i) 0 (by simp only[go_sem];rfl) (Nat.zero_le _) rfl ?_;rintro i hi;simp only[go_sem];refine⟨fun h=>⟨h,aC (oB (a.getD i []) (Nat.le_trans (uD (cost:=List.length) h _) hs)) rfl (.inl (ch _)) ?_⟩,fun h=>by rw[List.take_of_length_le (by omega)]⟩;simp only[go_sem];refine⟨by rw[List.length_take];omega,i+1,by omega,by omega,by rw[nh h [],aU h hm]⟩
def xT:List Nat:=[0,2]
def DK:Sl:=al Try.types Try.f56 xT []
theorem J5:aX Try.prog Try.f56 xT DK 1=true:=by decide +kernel
theorem Dr(a:Cat)(hs:Cat.cost a<=1048576):aD Try.prog 56 [.v (.ptr a.cells)] (Cat.d a):=by
 unfold Cat.cost at hs;refine a7 Try.func56 J5 ?_;unfold DK al xT;simp only[go_sem];refine aC (oA a.fr (by omega)) rfl (.inl (ch _)) ?_;simp only[go_sem];refine aC (oA a.to (by omega)) rfl (.inl (ch _)) ?_;simp only[go_sem];refine aC (oA a.aK (by omega)) rfl (.inl (ch _)) ?_;simp only[go_sem];refine aC (MV a.co (by omega)) rfl (.inl (im _)) ?_;simp only[go_sem]
 all_goals rfl
def yN:List Nat:=[0,2,1]
def EB:Sl:=al Try.types Try.f51 yN []
theorem KU:aX Try.prog Try.f51 yN EB 1=true:=by decide +kernel
theorem Dz(a:Cat)(hs:Cat.cost a<=1048576):aD Try.prog 51 [.v (Cat.d a)] (Cat.d a):=by
 unfold Cat.cost at hs;refine a7 Try.func51 KU ?_;unfold EB al yN;simp only[go_sem];refine aC (oB a.fr (by omega)) rfl (.inl (ch _)) ?_;simp only[go_sem];refine aC (oB a.to (by omega)) rfl (.inl (ch _)) ?_;simp only[go_sem];refine aC (oB a.aK (by omega)) rfl (.inl (ch _)) ?_;simp only[go_sem];refine aC (No a.co (by omega)) rfl (.inl (im _)) ?_;simp only[go_sem]
 all_goals rfl
def Cat.iT(c:Cat)(x y:Int)(i:Nat):List Int:=((List.range i).filter fun f=>c.fr.getD f 0 == x&&c.to.getD f 0 == y).map fun f:Nat=>(f:Int)
def Cat.aH(c:Cat)(x y:Int):List Int:=c.iT x y c.fr.length
theorem Cat.rK{c:Cat}{x y:Int}{i:Nat}:c.iT x y (i+1)=c.iT x y i++if(c.fr.getD i 0 == x&&c.to.getD i 0 == y)=true then[(i:Int)] else[]:=by
 unfold Cat.iT;rw[List.range_succ,List.filter_append,List.map_append];congr 1;simp only[List.filter_cons,List.filter_nil];split<;>rfl
theorem Cat.vc{c:Cat}{x y:Int}{i:Nat}:(c.iT x y i).length<=i:=by
 unfold Cat.iT;rw[List.length_map];exact Nat.le_trans (List.length_filter_le _ _) (by simp)
theorem Cat.cU{c:Cat}{x y f:Int}:f∈c.aH x y↔0<=f/\f<c.fr.length/\c.fr.getD f.toNat 0=x/\c.to.getD f.toNat 0=y:=by
 unfold Cat.aH Cat.iT;simp only[List.mem_map,List.mem_filter,List.mem_range,Bool.and_eq_true,beq_iff_eq];constructor
 ·rintro⟨i,⟨h1,h2,h3⟩,rfl⟩
  exact⟨by omega,by omega,by simpa using h2,by simpa using h3⟩
 ·rintro⟨h1,h2,h3,h4⟩
  exact⟨f.toNat,⟨by omega,h3,h4⟩,by omega⟩
theorem Cat.HA{c:Cat}{x y:Int}:(c.aH x y).Pairwise (·< ·):=by
 unfold Cat.aH Cat.iT;rw[List.pairwise_map];exact(List.Pairwise.filter _ List.pairwise_lt_range).imp fun h=>by omega
def xW:List Nat:=[0,1,2,6,7,8,14,15]
def DN:Sl:=al Try.types Try.f58 xW []
theorem J8:aX Try.prog Try.f58 xW DN 3=true:=by decide +kernel
theorem wU(c:Cat)(x y:Int)(h1:c.fr.length<=1048576)(h2:c.to.length=c.fr.length):aD Try.prog 58 [.v (.ptr c.cells),.v (.int .i64 x),.v (.int .i64 y)] (ints (c.aH x y)):=by
 refine a7 Try.func58 J8 ?_;unfold DN al xW;simp only[go_sem];refine ba [5] (fun(i:Nat)=>[(7,.int .i64 i),(4,.o (ints (c.iT x y i)))]) (fun i=>i<=c.fr.length) (fun i=>c.fr.length-i) 0 (by simp only[go_sem];rfl) (Nat.zero_le _) rfl ?_;rintro i hi;simp only[go_sem]
 refine⟨fun h=>⟨h,fun h3=>⟨h3,by omega⟩,fun h3=>⟨by have:=@Cat.vc c x y i;omega,i+1,by omega,by omega,by rw[Cat.rK,if_pos h3,aU h (by simp only[maxLen];omega)]⟩,
  fun h3=>⟨i+1,by omega,by omega,by rw[Cat.rK,if_neg (by rw[h3];decide),List.append_nil,aU h (by simp only[maxLen];omega)]⟩⟩,fun h=>?_⟩
 rw[show i=c.fr.length by omega];rfl
def yL:List Nat:=[0,1,2,6,3,7,8]
def Ez:Sl:=al Try.types Try.f63 yL []
theorem KS:aX Try.prog Try.f63 yL Ez 3=true:=by decide +kernel
theorem wY(c:Cat)(x y:Int)(h1:c.fr.length<=1048576)(h2:c.to.length=c.fr.length):aD Try.prog 63 [.v c.d,.v (.int .i64 x),.v (.int .i64 y)] (ints (c.aH x y)):=by
 refine a7 Try.func63 KS ?_;unfold Ez al yL;simp only[go_sem];refine ba [] (fun(i:Nat)=>[(6,.int .i64 i),(5,.o (ints (c.iT x y i)))]) (fun i=>i<=c.fr.length) (fun i=>c.fr.length-i) 0 (by simp only[go_sem];rfl) (Nat.zero_le _) rfl ?_;rintro i hi;simp only[go_sem]
 refine⟨fun h=>⟨h,fun h3=>⟨h3,by omega⟩,fun h3=>⟨by have:=@Cat.vc c x y i;omega,i+1,by omega,by omega,by rw[Cat.rK,if_pos h3,aU h (by simp only[maxLen];omega)]⟩,
  fun h3=>⟨i+1,by omega,by omega,by rw[Cat.rK,if_neg (by rw[h3];decide),List.append_nil,aU h (by simp only[maxLen];omega)]⟩⟩,fun h=>?_⟩
 rw[show i=c.fr.length by omega];rfl
end Go.D3
namespace Go.D3
set_option maxRecDepth 100000
def eN(c:Cat)(a b:Nat):List (List Int):=(c.aH a b).map fun h=>[(a:Int),(b:Int),h]
def gM(c:Cat)(a n:Nat):List (List Int):=(List.range n).flatMap (eN c a)
def ir(c:Cat)(n:Nat):List (List Int):=(List.range n).flatMap fun a=>gM c a c.ob.toNat
def ah(c:Cat):List (List Int):=ir c c.ob.toNat
theorem pG{α:Type}{f:Nat->List α}{n:Nat}:(List.range (n+1)).flatMap f=(List.range n).flatMap f++f n:=by simp[List.range_succ]
theorem Cg{c:Cat}{a n:Nat}:gM c a (n+1)=gM c a n++eN c a n:=pG
theorem Ch{c:Cat}{n:Nat}:ir c (n+1)=ir c n++gM c n c.ob.toNat:=pG
theorem jG{c:Cat}{x y:Int}(h:c.fr.length<=40):(c.aH x y).length<=40:=Nat.le_trans Cat.vc h
theorem pF{α:Type}{f:Nat->List α}{m:Nat}(h:∀i,(f i).length<=m):∀n,((List.range n).flatMap f).length<=n*m
 | 0=>by simp
 | n+1=>by
  rw[pG,List.length_append,Nat.succ_mul];have:=pF h n;have:=h n;omega
theorem J0{c:Cat}{a b:Nat}(h:c.fr.length<=40):(eN c a b).length<=40:=by unfold eN;rw[List.length_map];exact jG h
theorem vK{c:Cat}{a n:Nat}(h:c.fr.length<=40)(hn:n<=8):(gM c a n).length<=320:=Nat.le_trans (pF (fun _=>J0 h) n) (by omega)
theorem vL{c:Cat}{n:Nat}(h:c.fr.length<=40)(hn:n<=8)(hc:c.ob<=8):(ir c n).length<=2560:=Nat.le_trans (pF (fun _=>vK h (by omega)) n) (by omega)
structure qP(c:Cat)(p:List Int)(a b h:Int):Prop where
 eq:p=[a,b,h]
 a0 : 0<=a/\a<c.ob
 b0 : 0<=b/\b<c.ob
 h0 : 0<=h/\h<c.fr.length
 fr:c.fr.getD h.toNat 0=a
 to:c.to.getD h.toNat 0=b
theorem FL{c:Cat}{p:List Int}(h:p∈ah c):∃a b g,qP c p a b g:=by
 simp only[ah,ir,gM,eN,List.mem_flatMap,List.mem_map,List.mem_range] at h;obtain⟨a,ha,b,hb,g,hg,rfl⟩:=h;obtain⟨h1,h2,h3,h4⟩:=Cat.cU.1 hg;exact⟨a,b,g,rfl,by omega,by omega,⟨h1,h2⟩,h3,h4⟩
theorem gR{c:Cat}{i:Nat}(h:i<(ah c).length):∃a b g,qP c ((ah c).getD i []) a b g:=FL (by rw[bT h];exact List.getElem_mem h)
def fm(c:Cat)(p q:List Int):List (Int×Int):=(c.aH (p.getD 0 0) (q.getD 0 0)).flatMap fun u=>((c.aH (p.getD 1 0) (q.getD 1 0)).filter fun v=>c.aG u (q.getD 2 0) == c.aG (p.getD 2 0) v).map fun v=>(u,v)
def gS(c:Cat)(O:List (List Int))(s t:Nat):List (List Int):=(fm c (O.getD s []) (O.getD t [])).map fun x=>[(s:Int),(t:Int),x.1,x.2]
def dF(c:Cat)(O:List (List Int))(s n:Nat):List (List Int):=(List.range n).flatMap (gS c O s)
def ff(c:Cat)(O:List (List Int))(n:Nat):List (List Int):=(List.range n).flatMap fun s=>dF c O s O.length
def an(c:Cat):List (List Int):=ff c (ah c) (ah c).length
theorem o9{c:Cat}{O:List (List Int)}{s n:Nat}:dF c O s (n+1)=dF c O s n++gS c O s n:=pG
theorem qZ{c:Cat}{O:List (List Int)}{n:Nat}:ff c O (n+1)=ff c O n++dF c O n O.length:=pG
structure zf(c:Cat)(e:List Int)(s t:Nat)(u v:Int):Prop where
 eq:e=[(s:Int),(t:Int),u,v]
 s0:s<(ah c).length
 t0:t<(ah c).length
 u0:u∈c.aH (((ah c).getD s []).getD 0 0) (((ah c).getD t []).getD 0 0)
 v0:v∈c.aH (((ah c).getD s []).getD 1 0) (((ah c).getD t []).getD 1 0)
 sq:c.aG u (((ah c).getD t []).getD 2 0)=c.aG (((ah c).getD s []).getD 2 0) v
theorem wD{c:Cat}{p q:List Int}{u v:Int}:(u,v)∈fm c p q↔u∈c.aH (p.getD 0 0) (q.getD 0 0)/\v∈c.aH (p.getD 1 0) (q.getD 1 0)/\c.aG u (q.getD 2 0)=c.aG (p.getD 2 0) v:=by
 simp only[fm,List.mem_flatMap,List.mem_map,List.mem_filter,beq_iff_eq,Prod.mk.injEq];constructor
 ·rintro⟨u',h1,v',⟨h2,h3⟩,rfl,rfl⟩;exact⟨h1,h2,h3⟩
 ·rintro⟨h1,h2,h3⟩;exact⟨u,h1,v,⟨h2,h3⟩,rfl,rfl⟩
theorem nr{c:Cat}{e:List Int}:e∈an c↔∃s t u v,zf c e s t u v:=by
 simp only[an,ff,dF,gS,List.mem_flatMap,List.mem_map,List.mem_range];constructor
 ·rintro⟨s,hs,t,ht,⟨u,v⟩,hm,rfl⟩
  obtain⟨h1,h2,h3⟩:=wD.1 hm;exact⟨s,t,u,v,rfl,hs,ht,h1,h2,h3⟩
 ·rintro⟨s,t,u,v,rfl,hs,ht,h1,h2,h3⟩
  exact⟨s,hs,t,ht,(u,v),wD.2 ⟨h1,h2,h3⟩,rfl⟩
theorem vF{α β:Type}{l:List α}{f:α->List β}(hl:l.Nodup)(h1:∀a∈l,(f a).Nodup)(h2:∀a∈l,∀b∈l,∀x,x∈f a->x∈f b->a=b):(l.flatMap f).Nodup:=by
 induction l with
 | nil=>simp
 | cons a l ih =>
  rw[List.flatMap_cons,List.nodup_append];rw[List.nodup_cons] at hl;refine⟨h1 a List.mem_cons_self,ih hl.2 (fun b hb=>h1 b (List.mem_cons_of_mem _ hb)) (fun b hb d hd=>h2 b (List.mem_cons_of_mem _ hb) d (List.mem_cons_of_mem _ hd)),fun x hx y hy e=>?_⟩;subst e;obtain⟨b,hb,hxb⟩:=List.mem_flatMap.1 hy;have:=h2 a List.mem_cons_self b (List.mem_cons_of_mem _ hb) x hx hxb;subst this;exact hl.1 hb
theorem B8{α β:Type}{l:List α}{f:α->β}(hl:l.Nodup)(h:∀a b,f a=f b->a=b):(l.map f).Nodup:=by
 rw[List.Nodup,List.pairwise_map];exact hl.imp fun h1 h2=>h1 (h _ _ h2)
theorem Bc{c:Cat}{x y:Int}:(c.aH x y).Nodup:=Cat.HA.imp fun h e=>by omega
theorem L4{c:Cat}{p q:List Int}:(fm c p q).Nodup:=by
 refine vF Bc (fun u _=>B8 (Bc.filter _) fun a b h=>(Prod.mk.inj h).2) fun a _ b _ x hx hy=>?_
 obtain⟨v,_,rfl⟩:=List.mem_map.1 hx;obtain⟨w,_,h⟩:=List.mem_map.1 hy;exact((Prod.mk.inj h).1).symm
theorem zj{c:Cat}:(an c).Nodup:=by
 refine vF List.nodup_range (fun s _=>vF List.nodup_range (fun t _=>B8 L4 fun a b h=>?_) fun a _ b _ x hx hy=>?_) fun a _ b _ x hx hy=>?_
 ·simp only[List.cons.injEq,and_true,true_and] at h
  exact Prod.ext h.1 h.2
 ·obtain⟨v,_,rfl⟩:=List.mem_map.1 hx
  obtain⟨w,_,h⟩:=List.mem_map.1 hy;simp only[List.cons.injEq] at h;omega
 ·obtain⟨b1,_,hx⟩:=List.mem_flatMap.1 hx
  obtain⟨b2,_,hy⟩:=List.mem_flatMap.1 hy;obtain⟨v,_,rfl⟩:=List.mem_map.1 hx;obtain⟨w,_,h⟩:=List.mem_map.1 hy;simp only[List.cons.injEq] at h;omega
theorem L3{c:Cat}{p q:List Int}(h:c.fr.length<=40):(fm c p q).length<=1600:=by
 have key:∀(l:List Int),(l.flatMap fun u=>((c.aH (p.getD 1 0) (q.getD 1 0)).filter fun v=>c.aG u (q.getD 2 0) == c.aG (p.getD 2 0) v).map fun v=>(u,v)).length<=l.length*40:=by
  intro l;induction l with
  | nil=>simp
  | cons a l ih =>
   rw[List.flatMap_cons,List.length_append,List.length_map,List.length_cons,Nat.succ_mul];have:=List.length_filter_le (fun v=>c.aG a (q.getD 2 0) == c.aG (p.getD 2 0) v) (c.aH (p.getD 1 0) (q.getD 1 0));have:=jG (x:=p.getD 1 0) (y:=q.getD 1 0) h;omega
 exact Nat.le_trans (key _) (by have:=jG (x:=p.getD 0 0) (y:=q.getD 0 0) h;omega)
theorem F6{c:Cat}{O:List (List Int)}{s t:Nat}(h:c.fr.length<=40):(gS c O s t).length<=1600:=by unfold gS;rw[List.length_map];exact L3 h
theorem zy{c:Cat}{O:List (List Int)}{s n:Nat}(h:c.fr.length<=40)(hn:n<=8):(dF c O s n).length<=12800:=Nat.le_trans (pF (fun _=>F6 h) n) (by omega)
theorem zz{c:Cat}{O:List (List Int)}{n:Nat}(h:c.fr.length<=40)(hn:n<=8)(hO:O.length<=8):(ff c O n).length<=102400:=Nat.le_trans (pF (fun _=>zy h hO) n) (by omega)
def dE(c:Cat)(x:Nat):List Int:=[(x:Int),(x:Int),c.fF (((ah c).getD x []).getD 0 0),c.fF (((ah c).getD x []).getD 1 0)]
def nw(c:Cat)(e f:List Int):List Int:=[e.getD 0 0,f.getD 1 0,c.aG (e.getD 2 0) (f.getD 2 0),c.aG (e.getD 3 0) (f.getD 3 0)]
def fx(c:Cat)(i j:Nat):Int:=if((an c).getD i []).getD 1 0=((an c).getD j []).getD 0 0 then dK (an c) (nw c ((an c).getD i []) ((an c).getD j [])) else -1
def fe(c:Cat):Cat:=⟨(ah c).length,(an c).map fun e=>e.getD 0 0,(an c).map fun e=>e.getD 1 0,(List.range (ah c).length).map fun x=>dK (an c) (dE c x),(List.range (an c).length).map fun i=>(List.range (an c).length).map (fx c i)⟩
def en(c:Cat):Cat×Int:=if c.cZ then(if(ah c).length<=8 then(if(an c).length<=40 then(fe c,0) else(Cat.zero,3)) else(Cat.zero,3)) else(Cat.zero,1)
theorem oV{c:Cat}{i:Nat}(h:i<(an c).length):∃s t u v,zf c ((an c).getD i []) s t u v:=nr.1 (by rw[bT h];exact List.getElem_mem h)
theorem LX{l:List (List Int)}{x:List Int}(h:x∈l):∃i:Nat,i<l.length/\l.getD i []=x/\dK l x=i:=by
 have hlt:l.findIdx (·== x)<l.length:=List.findIdx_lt_length_of_exists ⟨x,h,by simp⟩;refine⟨l.findIdx (·== x),hlt,?_,by unfold dK;rw[if_pos hlt]⟩;have:=List.findIdx_getElem (p:=(·== x)) (w:=hlt);rw[bT hlt];simpa using this
theorem fS{c:Cat}(h:c.cZ=true):c.Shape/\(∀f,f<c.fr.length->c.iW f=false)/\∀f g k,f<c.fr.length->g<c.fr.length->k<c.fr.length->c.cM f g k=false:=by
 simp only[Cat.cZ,Bool.and_eq_true,beq_iff_eq] at h;refine⟨Cat.tp.1 h.1,?_⟩;have h2:=h.2;unfold Cat.iP at h2;split at h2
 ·cases h2
 ·rename_i hn
  rw[List.findSome?_eq_none_iff] at hn;refine⟨fun f hf=>?_,?_⟩
  ·have:=hn f (List.mem_range.2 hf)
   cases hb:c.iW f with
   | false=>rfl
   | true=>rw[hb] at this;cases this
  ·split at h2
   ·cases h2
   ·rename_i hm
    simp only[List.findSome?_eq_none_iff,List.mem_range] at hm;intro f g k hf hg hk;have:=hm f hf g hg k hk;cases hb:c.cM f g k with
    | false=>rfl
    | true=>rw[hb] at this;cases this
theorem Gw{c:Cat}(h:c.cZ=true){f:Int}(h0 : 0<=f)(h1:f<c.fr.length):c.aG (c.fF (c.fr.getD f.toNat 0)) f=f/\c.aG f (c.fF (c.to.getD f.toNat 0))=f:=by
 obtain⟨_,h2,_⟩:=fS h;have:=h2 f.toNat (by omega);rw[Cat.iW,Int.toNat_of_nonneg h0,Bool.or_eq_false_iff,bne_eq_false_iff_eq,bne_eq_false_iff_eq] at this;exact this
theorem ux{c:Cat}(h:c.cZ=true){f g k:Int}(f0 : 0<=f)(f1:f<c.fr.length)(g0 : 0<=g)(g1:g<c.fr.length)(k0 : 0<=k)(k1:k<c.fr.length)(e1:c.to.getD f.toNat 0=c.fr.getD g.toNat 0)(e2:c.to.getD g.toNat 0=c.fr.getD k.toNat 0):c.aG (c.aG f g) k=c.aG f (c.aG g k):=by
 obtain⟨_,_,h2⟩:=fS h;have:=h2 f.toNat g.toNat k.toNat (by omega) (by omega) (by omega);rw[Cat.cM,Int.toNat_of_nonneg f0,Int.toNat_of_nonneg g0,Int.toNat_of_nonneg k0,e1,e2] at this;simpa using this
theorem zZ{c:Cat}(h:c.Shape){f g:Int}(f0 : 0<=f)(f1:f<c.fr.length)(g0 : 0<=g)(g1:g<c.fr.length)(e1:c.to.getD f.toNat 0=c.fr.getD g.toNat 0) : 0<=c.aG f g/\c.aG f g<c.fr.length/\c.fr.getD (c.aG f g).toNat 0=c.fr.getD f.toNat 0/\c.to.getD (c.aG f g).toNat 0=c.to.getD g.toNat 0:=by
 have:=h.jA (f:=f.toNat) (g:=g.toNat) (by omega) (by omega) e1;rw[Int.toNat_of_nonneg f0,Int.toNat_of_nonneg g0] at this;exact this
theorem Bd{c:Cat}(h:c.Shape){x:Int}(h0 : 0<=x)(h1:x<c.ob):c.fF x∈c.aH x x:=by
 have hi:=h.aK;obtain⟨h2,h3⟩:=h.pK h0 (by omega);have:=h.ids x.toNat (by omega);rw[Cat.jH,Bool.and_eq_true,beq_iff_eq,beq_iff_eq,Int.toNat_of_nonneg h0] at this;exact Cat.cU.2 ⟨h2,h3,this.1,this.2⟩
theorem FK{c:Cat}(h:c.cZ=true){x:Nat}(hx:x<(ah c).length):dE c x∈an c:=by
 obtain⟨a,b,g,k⟩:=gR hx;have hs:=(fS h).1;refine nr.2 ⟨x,x,_,_,rfl,hx,hx,?_,?_,?_⟩
 all_goals rw[k.eq]
 ·exact Bd hs k.a0.1 k.a0.2
 ·exact Bd hs k.b0.1 k.b0.2
 ·have:=Gw h k.h0.1 k.h0.2
  rw[k.fr,k.to] at this;exact this.1.trans this.2.symm
theorem FN{c:Cat}(h:c.cZ=true){e f:List Int}(he:e∈an c)(hf:f∈an c)(hef:e.getD 1 0=f.getD 0 0):nw c e f∈an c:=by
 obtain⟨s,t,u,v,k⟩:=nr.1 he;obtain⟨s',t',u',v',k'⟩:=nr.1 hf;have hs:=(fS h).1;rw[k.eq,k'.eq] at hef|-
 have aI:t=s':=Int.ofNat_inj.1 hef;subst aI;obtain⟨a1,b1,g1,o1⟩:=gR k.s0;obtain⟨a2,b2,g2,o2⟩:=gR k.t0;obtain⟨a3,b3,g3,o3⟩:=gR k'.t0;have hu:=k.u0;have hv:=k.v0;have hq:=k.sq;have hu':=k'.u0;have hv':=k'.v0;have hq':=k'.sq;rw[o1.eq,o2.eq] at hu hv hq;rw[o2.eq,o3.eq] at hu' hv' hq';obtain⟨p1,p2,p3,p4⟩:=Cat.cU.1 hu;obtain⟨q1,q2,q3,q4⟩:=Cat.cU.1 hv;obtain⟨r1,r2,r3,r4⟩:=Cat.cU.1 hu';obtain⟨w1,w2,w3,w4⟩:=Cat.cU.1 hv';simp only[List.getD_cons_zero,List.getD_cons_succ] at p3 p4 q3 q4 r3 r4 w3 w4 hq hq';obtain⟨m1,m2,m3,m4⟩:=zZ hs p1 p2 r1 r2 (p4.trans r3.symm);obtain⟨n1,n2,n3,n4⟩:=zZ hs q1 q2 w1 w2 (q4.trans w3.symm);refine nr.2 ⟨s,t',c.aG u u',c.aG v v',rfl,k.s0,k'.t0,?_,?_,?_⟩
 ·rw[o1.eq,o3.eq];exact Cat.cU.2 ⟨m1,m2,m3.trans p3,m4.trans r4⟩
 ·rw[o1.eq,o3.eq];exact Cat.cU.2 ⟨n1,n2,n3.trans q3,n4.trans w4⟩
 ·rw[o1.eq,o3.eq]
  simp only[List.getD_cons_zero,List.getD_cons_succ]
  rw[ux h p1 p2 r1 r2 o3.h0.1 o3.h0.2 (p4.trans r3.symm) (r4.trans o3.fr.symm),hq',<-ux h p1 p2 o2.h0.1 o2.h0.2 w1 w2 (p4.trans o2.fr.symm) (o2.to.trans w3.symm),hq,
   ux h o1.h0.1 o1.h0.2 q1 q2 w1 w2 (o1.to.trans q3.symm) (q4.trans w3.symm)]
end Go.D3
namespace Go.D3
def rX(a b:List Int):Prop:=∃i,(∀j,j<i->a.getD j 0=b.getD j 0)/\a.getD i 0<b.getD i 0
theorem BD{a b:List Int}(h:rX a b):¬rX b a:=by
 rintro⟨j,h3,h4⟩;obtain⟨i,h1,h2⟩:=h;rcases Nat.lt_trichotomy i j with hij | hij | hij
 ·have:=h3 i hij;omega
 ·subst hij;omega
 ·have:=h1 j hij;omega
theorem xB{α:Type}{R:α->α->Prop}(hR:∀a b,R a b->¬R b a):∀{l m:List α},l.Pairwise R->m.Pairwise R->(∀x,x∈l↔x∈m)->l=m
 | [],[],_,_,_=>rfl
 | [],y::m,_,_,h=>by have:=(h y).2 (by simp);simp at this
 | x::l,[],_,_,h=>by have:=(h x).1 (by simp);simp at this
 | x::l,y::m,h1,h2,h=>by
  have i1:∀{z},z∈l->z≠x:=fun {z} hz he=>by subst he;have:=List.rel_of_pairwise_cons h1 hz;exact hR _ _ this this
  have i2:∀{z},z∈m->z≠y:=fun {z} hz he=>by subst he;have:=List.rel_of_pairwise_cons h2 hz;exact hR _ _ this this
  have hxy:x=y:=by
   apply Classical.byContradiction;intro hne;have hx:x∈m:=((List.mem_cons.1 ((h x).1 (by simp))).resolve_left hne);have hy:y∈l:=((List.mem_cons.1 ((h y).2 (by simp))).resolve_left (Ne.symm hne));exact hR _ _ (List.rel_of_pairwise_cons h1 hy) (List.rel_of_pairwise_cons h2 hx)
  subst hxy;rw[xB hR (List.Pairwise.of_cons h1) (List.Pairwise.of_cons h2) fun z=>⟨fun hz=>(List.mem_cons.1 ((h z).1 (by simp[hz]))).resolve_left (i1 hz),fun hz=>(List.mem_cons.1 ((h z).2 (by simp[hz]))).resolve_left (i2 hz)⟩]
theorem mY{l:List Int}{i j:Nat}{x:Int}(hi:i<l.length):(l.set i x).getD j 0=if j=i then x else l.getD j 0:=by
 rw[List.getD_eq_getElem?_getD,List.getElem?_set];by_cases h:i=j
 ·subst h;simp[hi]
 ·rw[if_neg h,if_neg (Ne.symm h),List.getD_eq_getElem?_getD]
def j9(p:List Int):Nat:=p.countP fun x=>decide (x<0)
theorem Fk{p:List Int}{i:Nat}{x:Int}(hi:i<p.length)(h0:p.getD i 0<0)(hx : 0<=x):j9 (p.set i x)<j9 p:=by
 unfold j9;rw[List.countP_set hi];have h1:p[i]<0:=by rw[bT hi] at h0;exact h0
 have hp : 0<p.countP fun x=>decide (x<0):=List.countP_pos_iff.2 ⟨p[i],List.getElem_mem hi,by simpa using h1⟩
 rw[if_pos (by simpa using h1),if_neg (by simpa using hx)];omega
variable{c d:Cat}{aN p F:List Int}
structure Typed(c d:Cat)(aN p:List Int):Prop where
 len:p.length=c.fr.length
 ty:∀i,i<c.fr.length->p.getD i 0=-1\/(0<=p.getD i 0/\p.getD i 0<d.fr.length/\d.fr.getD (p.getD i 0).toNat 0=aN.getD (c.fr.getD i 0).toNat 0/\d.to.getD (p.getD i 0).toNat 0=aN.getD (c.to.getD i 0).toNat 0)
def Fit(c d:Cat)(p:List Int)(a b:Nat):Prop:=0<=c.cell a b->0<=p.getD a 0->0<=p.getD b 0->p.getD (c.cell a b).toNat 0=d.aG (p.getD a 0) (p.getD b 0)
structure FG(c d:Cat)(aN F:List Int):Prop where
 ty:Typed c d aN F
 OJ:∀i,i<c.fr.length->0<=F.getD i 0
 co:∀a b,a<c.fr.length->b<c.fr.length->Fit c d F a b
def FF(p F:List Int):Prop:=∀i,i<p.length->0<=p.getD i 0->F.getD i 0=p.getD i 0
def fa(c d:Cat)(aN p F:List Int):Prop:=FG c d aN F/\FF p F
theorem Typed.get(h:Typed c d aN p){i:Nat}(hi:i<c.fr.length)(h0 : 0<=p.getD i 0):p.getD i 0<d.fr.length/\d.fr.getD (p.getD i 0).toNat 0=aN.getD (c.fr.getD i 0).toNat 0/\d.to.getD (p.getD i 0).toNat 0=aN.getD (c.to.getD i 0).toNat 0:=by
 rcases h.ty i hi with h1 | h1
 ·omega
 ·exact h1.2
theorem Typed.set(h:Typed c d aN p){i:Nat}{x:Int}(hi:i<c.fr.length)(h0 : 0<=x)(h1:x<d.fr.length)(h2:d.fr.getD x.toNat 0=aN.getD (c.fr.getD i 0).toNat 0)(h3:d.to.getD x.toNat 0=aN.getD (c.to.getD i 0).toNat 0):Typed c d aN (p.set i x):=by
 refine⟨by rw[List.length_set,h.len],fun j hj=>?_⟩;rw[mY (by rw[h.len];exact hi)];by_cases hji:j=i
 ·subst hji;rw[if_pos rfl];exact .inr ⟨h0,h1,h2,h3⟩
 ·rw[if_neg hji];exact h.ty j hj
theorem Ab(c:Cat)(a b:Nat):c.aG a b=c.cell a b:=by simp[Cat.aG,Cat.cell]
theorem Typed.comp(h:Typed c d aN p)(hc:c.Shape)(hd:d.Shape){a b:Nat}(ha:a<c.fr.length)(hb:b<c.fr.length)(h0 : 0<=c.cell a b)(h1 : 0<=p.getD a 0)(h2 : 0<=p.getD b 0) :
  (c.cell a b).toNat<c.fr.length/\0<=d.aG (p.getD a 0) (p.getD b 0)/\d.aG (p.getD a 0) (p.getD b 0)<d.fr.length /\
  d.fr.getD (d.aG (p.getD a 0) (p.getD b 0)).toNat 0=aN.getD (c.fr.getD (c.cell a b).toNat 0).toNat 0/\d.to.getD (d.aG (p.getD a 0) (p.getD b 0)).toNat 0=aN.getD (c.to.getD (c.cell a b).toNat 0).toNat 0:=by
 have hab:c.to.getD a 0=c.fr.getD b 0:=Classical.byContradiction fun hh=>by have:=hc.uz ha hb hh;rw[Ab] at this;omega
 obtain⟨c1,c2,c3,c4⟩:=hc.jA ha hb hab;rw[Ab] at c1 c2 c3 c4;obtain⟨a1,a2,a3⟩:=h.get ha h1;obtain⟨b1,b2,b3⟩:=h.get hb h2;have ea:((p.getD a 0).toNat:Int)=p.getD a 0:=Int.toNat_of_nonneg h1;have eb:((p.getD b 0).toNat:Int)=p.getD b 0:=Int.toNat_of_nonneg h2;obtain⟨d1,d2,d3,d4⟩:=hd.jA (f:=(p.getD a 0).toNat) (g:=(p.getD b 0).toNat) (by omega) (by omega) (by rw[a3,b2,hab]);rw[ea,eb] at d1 d2 d3 d4;exact⟨by omega,d1,d2,by rw[d3,a2,c3],by rw[d4,b3,c4]⟩
theorem fa.force(_:c.Shape)(hp:Typed c d aN p)(h:fa c d aN p F){a b:Nat}(ha:a<c.fr.length)(hb:b<c.fr.length)(h0 : 0<=c.cell a b)(h1 : 0<=p.getD a 0)(h2 : 0<=p.getD b 0) :
  F.getD (c.cell a b).toNat 0=d.aG (p.getD a 0) (p.getD b 0):=by
 have e1:=h.2 a (by rw[hp.len];exact ha) h1;have e2:=h.2 b (by rw[hp.len];exact hb) h2;have:=h.1.co a b ha hb h0 (by omega) (by omega);rw[this,e1,e2]
theorem fa.set(hp:Typed c d aN p){i:Nat}{x:Int}(hi:i<c.fr.length)(hn:p.getD i 0<0)(hx : 0<=x):fa c d aN (p.set i x) F↔fa c d aN p F/\F.getD i 0=x:=by
 have hil:i<p.length:=by rw[hp.len];exact hi
 constructor
 ·rintro⟨h1,h2⟩
  refine⟨⟨h1,fun j hj hj0=>?_⟩,?_⟩
  ·have hji:j≠i:=by rintro rfl;omega
   have:=h2 j (by rw[List.length_set];exact hj) (by rw[mY hil,if_neg hji];exact hj0)
   rwa [mY hil,if_neg hji] at this
  ·have:=h2 i (by rw[List.length_set];exact hil) (by rw[mY hil,if_pos rfl];exact hx)
   rwa [mY hil,if_pos rfl] at this
 ·rintro⟨⟨h1,h2⟩,h3⟩
  refine⟨h1,fun j hj hj0=>?_⟩;rw[List.length_set] at hj;rw[mY hil] at hj0|-
  by_cases hji:j=i
  ·subst hji;rw[if_pos rfl];exact h3
  ·rw[if_neg hji] at hj0|-;exact h2 j hj hj0
structure kn(c d:Cat)(aN p:List Int)(p':List Int):Prop where
 ty:Typed c d aN p'
 same:∀F,fa c d aN p' F↔fa c d aN p F
 ext:∀i,0<=p.getD i 0->p'.getD i 0=p.getD i 0
 neg:j9 p'<=j9 p
theorem kn.refl(h:Typed c d aN p):kn c d aN p p:=⟨h,fun _=>Iff.rfl,fun _ _=>rfl,Nat.le_refl _⟩
theorem kn.trans{p1 p2 p3:List Int}(h:kn c d aN p1 p2)(h':kn c d aN p2 p3):kn c d aN p1 p3 :=
 ⟨h'.ty,fun F=>(h'.same F).trans (h.same F),fun i hi=>by rw[h'.ext i (by rw[h.ext i hi];exact hi),h.ext i hi],Nat.le_trans h'.neg h.neg⟩
theorem kn.step(hc:c.Shape)(hd:d.Shape)(hp:Typed c d aN p){a b:Nat}(ha:a<c.fr.length)(hb:b<c.fr.length)(h0 : 0<=c.cell a b)(h1 : 0<=p.getD a 0)(h2 : 0<=p.getD b 0)(hn:p.getD (c.cell a b).toNat 0<0) :
  kn c d aN p (p.set (c.cell a b).toNat (d.aG (p.getD a 0) (p.getD b 0)))/\j9 (p.set (c.cell a b).toNat (d.aG (p.getD a 0) (p.getD b 0)))<j9 p:=by
 obtain⟨q1,q2,q3,q4,q5⟩:=hp.comp hc hd ha hb h0 h1 h2;have hlt:=Fk (p:=p) (i:=(c.cell a b).toNat) (x:=d.aG (p.getD a 0) (p.getD b 0)) (by rw[hp.len];exact q1) hn q2;refine⟨⟨hp.set q1 q2 q3 q4 q5,fun F=>?_,fun i hi=>?_,by omega⟩,hlt⟩
 ·rw[fa.set hp q1 hn q2]
  exact⟨fun h=>h.1,fun h=>⟨h,h.force hc hp ha hb h0 h1 h2⟩⟩
 ·rw[mY (by rw[hp.len];exact q1)]
  by_cases hh:i=(c.cell a b).toNat
  ·subst hh;omega
  ·rw[if_neg hh]
theorem fa.full(hp:Typed c d aN p)(hco:∀a b,a<c.fr.length->b<c.fr.length->Fit c d p a b)(ht:∀i,i<c.fr.length->0<=p.getD i 0):fa c d aN p F↔F=p:=by
 constructor
 ·rintro⟨h1,h2⟩
  refine List.ext_getElem (by rw[h1.ty.len,hp.len]) fun i h3 h4=>?_
  have:=h2 i h4 (ht i (by rw[<-hp.len];exact h4))
  rwa [bT h3,bT h4] at this
 ·rintro rfl
  exact⟨⟨hp,ht,hco⟩,fun _ _ _=>rfl⟩
def En(c d:Cat)(aN p:List Int)(L:List (List Int)):Prop:=L.Pairwise rX/\∀F,F∈L↔fa c d aN p F
theorem En.eq{L L':List (List Int)}(h:En c d aN p L)(h':En c d aN p L'):L=L':=xB (fun _ _=>BD) h.1 h'.1 fun F=>(h.2 F).trans (h'.2 F).symm
theorem En.none{L:List (List Int)}(h:En c d aN p L)(hn:∀F,¬fa c d aN p F):L=[]:=by
 cases L with
 | nil=>rfl
 | cons F L=>exact(hn F ((h.2 F).1 (by simp))).elim
theorem En.one{L:List (List Int)}(h:En c d aN p L)(hp:Typed c d aN p)(hco:∀a b,a<c.fr.length->b<c.fr.length->Fit c d p a b)(ht:∀i,i<c.fr.length->0<=p.getD i 0):L=[p] :=
 xB (fun _ _=>BD) h.1 (List.pairwise_singleton _ _) fun F=>by rw[h.2 F,fa.full hp hco ht,List.mem_singleton]
structure qO(p:List Int)(a:Nat):Prop where
 lt:a<p.length
 neg:p.getD a 0<0
 zN:∀j,j<a->0<=p.getD j 0
theorem qO.aH(hp:Typed c d aN p){a:Nat}(ha:qO p a){x:Int}(hx:x∈d.aH (aN.getD (c.fr.getD a 0).toNat 0) (aN.getD (c.to.getD a 0).toNat 0)) :
  Typed c d aN (p.set a x)/\j9 (p.set a x)<j9 p:=by
 obtain⟨h1,h2,h3,h4⟩:=Cat.cU.1 hx;exact⟨hp.set (by rw[<-hp.len];exact ha.lt) h1 h2 h3 h4,Fk ha.lt ha.neg h1⟩
def lS(c d:Cat)(aN p:List Int)(a:Nat)(H:List Int)(i:Nat)(L:List (List Int)):Prop:=L.Pairwise rX/\∀F,F∈L↔fa c d aN p F/\∃j,j<i/\F.getD a 0=H.getD j 0
theorem lS.zero{a:Nat}{H:List Int}:lS c d aN p a H 0 []:=⟨List.Pairwise.nil,fun F=>by simp⟩
theorem lS.step(hp:Typed c d aN p){a:Nat}(ha:qO p a){H:List Int}(hH:H.Pairwise (·< ·)){i:Nat}(hi:i<H.length)(h0 : 0<=H.getD i 0){L L1:List (List Int)}(h:lS c d aN p a H i L)(h1:En c d aN (p.set a (H.getD i 0)) L1):lS c d aN p a H (i+1) (L++L1):=by
 have hac:a<c.fr.length:=by rw[<-hp.len];exact ha.lt
 have hm:∀F,F∈L1↔fa c d aN p F/\F.getD a 0=H.getD i 0:=fun F=>by rw[h1.2,fa.set hp hac ha.neg h0]
 refine⟨List.pairwise_append.2 ⟨h.1,h1.1,fun F hF F' hF'=>?_⟩,fun F=>?_⟩
 ·obtain⟨hc1,j,hj,e1⟩:=(h.2 F).1 hF
  obtain⟨hc2,e2⟩:=(hm F').1 hF';refine⟨a,fun k hk=>?_,?_⟩
  ·rw[hc1.2 k (by have:=ha.lt;omega) (ha.zN k hk),hc2.2 k (by have:=ha.lt;omega) (ha.zN k hk)]
  ·rw[e1,e2,bT hi,bT (show j<H.length by omega)]
   exact List.pairwise_iff_getElem.1 hH j i _ _ hj
 ·rw[List.mem_append,h.2,hm]
  constructor
  ·rintro(⟨h2,j,hj,e⟩ | ⟨h2,e⟩)
   ·exact⟨h2,j,by omega,e⟩
   ·exact⟨h2,i,by omega,e⟩
  ·rintro⟨h2,j,hj,e⟩
   by_cases hji:j=i
   ·subst hji;exact .inr ⟨h2,e⟩
   ·exact .inl ⟨h2,j,by omega,e⟩
theorem lS.done(hp:Typed c d aN p){a:Nat}(ha:qO p a){L:List (List Int)}(h:lS c d aN p a (d.aH (aN.getD (c.fr.getD a 0).toNat 0) (aN.getD (c.to.getD a 0).toNat 0)) (d.aH (aN.getD (c.fr.getD a 0).toNat 0) (aN.getD (c.to.getD a 0).toNat 0)).length L):En c d aN p L:=by
 refine⟨h.1,fun F=>?_⟩;rw[h.2];refine⟨fun hh=>hh.1,fun hh=>⟨hh,?_⟩⟩;have hac:a<c.fr.length:=by rw[<-hp.len];exact ha.lt
 have h1:=hh.1.OJ a hac;obtain⟨h2,h3,h4⟩:=hh.1.ty.get hac h1;have:F.getD a 0∈d.aH (aN.getD (c.fr.getD a 0).toNat 0) (aN.getD (c.to.getD a 0).toNat 0):=Cat.cU.2 ⟨h1,h2,h3,h4⟩;obtain⟨j,hj,e⟩:=List.getElem_of_mem this;exact⟨j,hj,by rw[bT hj,e]⟩
end Go.D3
namespace Go.D3
open Go Proofs
set_option maxHeartbeats 4000000
set_option maxRecDepth 100000
structure bP where
 src:Cat
 oI:Cat
 aN:List (Int)
 iK:List (Int)
def bP.cells(x:bP):List D:=[.int .i64 x.src.ob,ints x.src.fr,ints x.src.to,ints x.src.aK,aB x.src.co,.int .i64 x.oI.ob,ints x.oI.fr,ints x.oI.to,ints x.oI.aK,aB x.oI.co,ints x.aN,ints x.iK]
def bP.d(x:bP):D:=.agg x.cells
def bP.zero:bP:=⟨Cat.zero,Cat.zero,[],[]⟩
def bP.cost(x:bP):Nat:=Cat.cost x.src+Cat.cost x.oI+x.aN.length+x.iK.length
theorem Ob:D.slice (.agg [.int .i64 0,ints [],ints [],ints [],aB [],.int .i64 0,ints [],ints [],ints [],aB [],ints [],ints []]) []=ak bP.d bP.zero []:=rfl
theorem MB{n:Nat}:D.slice (.agg [.int .i64 0,ints [],ints [],ints [],aB [],.int .i64 0,ints [],ints [],ints [],aB [],ints [],ints []]) (List.replicate n (.agg [.int .i64 0,ints [],ints [],ints [],aB [],.int .i64 0,ints [],ints [],ints [],aB [],ints [],ints []]))=ak bP.d bP.zero (List.replicate n bP.zero):=by unfold ak;rw[List.map_replicate];rfl
theorem NQ{l:List bP}{i:Nat}{srcob:Int}{srcfr:List (Int)}{srcto:List (Int)}{srcidn:List (Int)}{srcco:List (List (Int))}{tgtob:Int}{tgtfr:List (Int)}{tgtto:List (Int)}{tgtidn:List (Int)}{tgtco:List (List (Int))}{aN:List (Int)}{iK:List (Int)}:dB (.o (ak bP.d bP.zero l)) [(i,0)] 0 [.int .i64 srcob,ints srcfr,ints srcto,ints srcidn,aB srcco,.int .i64 tgtob,ints tgtfr,ints tgtto,ints tgtidn,aB tgtco,ints aN,ints iK]=.o (ak bP.d bP.zero (l.set i ⟨⟨srcob,srcfr,srcto,srcidn,srcco⟩,⟨tgtob,tgtfr,tgtto,tgtidn,tgtco⟩,aN,iK⟩)):=xt (n:=12) (fun _=>⟨_,rfl,rfl⟩) rfl
attribute [go_sem] bP.cells.eq_1 bP.d.eq_1 Ob MB
theorem FY{l:List bP}{srcob:Int}{srcfr:List (Int)}{srcto:List (Int)}{srcidn:List (Int)}{srcco:List (List (Int))}{tgtob:Int}{tgtfr:List (Int)}{tgtto:List (Int)}{tgtidn:List (Int)}{tgtco:List (List (Int))}{aN:List (Int)}{iK:List (Int)}:(ak bP.d bP.zero l).dY [.agg [.int .i64 srcob,ints srcfr,ints srcto,ints srcidn,aB srcco,.int .i64 tgtob,ints tgtfr,ints tgtto,ints tgtidn,aB tgtco,ints aN,ints iK]]=ak bP.d bP.zero (l++[⟨⟨srcob,srcfr,srcto,srcidn,srcco⟩,⟨tgtob,tgtfr,tgtto,tgtidn,tgtco⟩,aN,iK⟩]):=sa (f:=bP.d) (x:=⟨⟨srcob,srcfr,srcto,srcidn,srcco⟩,⟨tgtob,tgtfr,tgtto,tgtidn,tgtco⟩,aN,iK⟩)
attribute [go_sem high] NQ FY
theorem pZ(x:bP):x.d.bp=true:=by simp only[bP.d,bP.cells,D.bp,dA,ch,im,Bool.and_self]
def yb:List Nat:=[0,1,2,3,8]
def DX:Sl:=al Try.types Try.f34 yb []
theorem Ki:aX Try.prog Try.f34 yb DX 4=true:=by decide +kernel
theorem MZ(c d:Cat)(o f:List Int)(h1:Cat.cost c<=1048576)(h2:Cat.cost d<=1048576)(h3:o.length<=1048576)(h4:f.length<=1048576):aD Try.prog 34 [.v (.ptr c.cells),.v (.ptr d.cells),.v (ints o),.v (ints f)] (bP.d ⟨c,d,o,f⟩):=by
 refine a7 Try.func34 Ki ?_;unfold DX al yb;simp only[go_sem];refine aC (Dr c h1) rfl (.inl (eM _)) ?_;simp only[go_sem];refine aC (Dr d h2) rfl (.inl (eM _)) ?_;simp only[go_sem];refine aC (oA o h3) rfl (.inl (ch _)) ?_;simp only[go_sem];refine aC (oA f h4) rfl (.inl (ch _)) ?_;simp only[go_sem]
 all_goals rfl
def yR:List Nat:=[0,1,2,3,8,4,5]
def EF:Sl:=al Try.types Try.f31 yR []
theorem KY:aX Try.prog Try.f31 yR EF 4=true:=by decide +kernel
theorem Nq(c d:Cat)(o f:List Int)(h1:Cat.cost c<=1048576)(h2:Cat.cost d<=1048576)(h3:o.length<=1048576)(h4:f.length<=1048576):aD Try.prog 31 [.v c.d,.v d.d,.v (ints o),.v (ints f)] (bP.d ⟨c,d,o,f⟩):=by
 refine a7 Try.func31 KY ?_;unfold EF al yR;simp only[go_sem];refine aC (Dz c h1) rfl (.inl (eM _)) ?_;simp only[go_sem];refine aC (Dz d h2) rfl (.inl (eM _)) ?_;simp only[go_sem];refine aC (oB o h3) rfl (.inl (ch _)) ?_;simp only[go_sem];refine aC (oB f h4) rfl (.inl (ch _)) ?_;simp only[go_sem]
 all_goals rfl
end Go.D3
