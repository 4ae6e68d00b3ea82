/- CONTRACTS: instances, the program's side: paths, the category of a schema, maps of a set functor. -/
import Derived.Test.YtaknpcdnmecblaaGreatDoorGAW
import Derived.Test.YtaknpcdnmecblaaGreatDoorGAX
import Derived.Test.YtaknpcdnmecblaaGreatDoorGAU
import Derived.Test.YtaknpcdnmecblaaGreatDoorGAY
namespace Go.D3
open Go Proofs
set_option maxHeartbeats 4000000
set_option maxRecDepth 100000
def Cf:List Nat:=[0,1,4,3,6]
def Kg:Sl:=ah Tryz.types Tryz.f115 Cf []
theorem TV:aE Tryz.prog Tryz.f115 Cf Kg 2=true:=by decide +kernel
theorem Yc(s:aa)(p:U){y:Int}(S:s.ok=true)(hp:s.aO p=some y):aA Tryz.prog 115 [.v (.ptr s.cells),.v (U.d p)] (.bool true):=by
 have h1:=sq s;rw[S] at h1;have V:=ic (eX S).1;have I:=oM s p V.to V.n0;rw[hp] at I;unfold kD at I;refine aQ Tryz.func115 TV ?_;unfold Kg ah Cf;simp only[go_sem];refine aj h1 rfl (.inl rfl) ?_;simp only[go_sem];refine aj I rfl (.inl rfl) ?_;simp only[go_sem]
def AA(s:aa)(x:aW):D:=.o (.av [.vw (x.pD s),.int .i64 0])
def CM:List Nat:=[0,1,4,5,7,11,12,13]
def KP:Sl:=ah Tryz.types Tryz.f53 CM []
theorem Us:aE Tryz.prog Tryz.f53 CM KP 2=true:=by decide +kernel
theorem Yv(s:aa)(p:U){y:Int}{x:aW}(I:s.ok=true)(hp:s.aO p=some y)(V:s.cn=some x):bn Tryz.prog 53 [.ptr s.cells,.sub 0 []] [.o (ae eZ none [some p])] (fun rc gs=>rc=AA s x/\gs=[.dead]):=by
 have h1:=sq s;rw[I] at h1;have S:=w7 s I;rw[wR V] at S;unfold AA aW.pD at *;refine dB .tree Tryz.func53 Us ?_;unfold KP ah CM;simp only[go_sem];refine aj h1 rfl (.inl rfl) ?_;simp only[go_sem];refine au [4] (fun(i:Nat)=>[(7,.int .i64 i)]) (fun i=>i<=1) (fun i=>1-i) 0 (by simp only[go_sem];rfl) (Nat.zero_le _) rfl ?_;intro i hi;have g0:([some p]:List (Option U)).getD 0 none=some p:=rfl;rcases(show i=0\/i=1 by omega) with rfl | rfl
 ·simp only[go_sem,g0]
  refine⟨⟨by decide,by decide⟩,aj (Yc s p I hp) rfl (.inl rfl) ?_⟩;simp only[go_sem];exact⟨1,Nat.le_refl _,by decide,by rw[aw (i:=0) (n:=1) (by decide) (by decide)]⟩
 ·simp only[go_sem]
  refine aj S rfl (.inr trivial) ?_;simp only[go_sem];exact⟨_,_,⟨rfl,rfl⟩,rfl,rfl,rfl,trivial⟩
def B9:List Nat:=[0,1,4,5,2,3,6,7]
def Ka:Sl:=ah Tryz.types Tryz.f18 B9 [(0,53),(8,10)]
theorem TP:aE Tryz.prog Tryz.f18 B9 Ka 2=true:=by decide +kernel
theorem X9(s:aa)(p:U){y:Int}{x:aW}(I:s.ok=true)(hp:s.aO p=some y)(S:s.cn=some x):aA Tryz.prog 18 [.v (aa.d s),.v (U.d p)] (.av [.int .i64 (x.arr p p.ed.length),.int .i64 0]):=by
 have V:=w8 (ql I S) (.ptr s.cells) (ae U.d U.zero x.ls) hp;have h1:=Yv s p I hp S;unfold AA aW.pD at h1;refine aQ Tryz.func18 TP ?_;unfold Ka ah B9;simp only[go_sem];refine bj [1001] false h1 ?_;rintro _ _ ⟨rfl,rfl⟩;refine⟨(by repeat(first | exact trivial | refine⟨(fun h=>by cases h),?_⟩)),(fun h=>by cases h),?_⟩;simp only[go_sem];refine⟨fun h=>(by cases h),fun _=>?_⟩;refine aj V rfl (.inl rfl) ?_;simp only[go_sem]
def Cx:List Nat:=[0,2,3,5,7,8,9]
def Kz:Sl:=ah Tryz.types Tryz.f52 Cx []
theorem Ud:aE Tryz.prog Tryz.f52 Cx Kz 1=true:=by decide +kernel
theorem Yn(a:List U)(I:da U.cost a<=1048576):aA Tryz.prog 52 [.v (ae U.d U.zero a)] (ae U.d U.zero a):=by
 have S:a.length<=1048576:=by unfold da at I;omega
 have hm:a.length<=maxLen:=by simp only[maxLen];omega
 refine aQ Tryz.func52 Ud ?_;unfold Kz ah Cx;simp only[go_sem];refine au [3] (fun(i:Nat)=>[(6,.int .i64 i),(2,.o (ae U.d U.zero (a.take i)))]) (fun i=>i<=a.length) (fun i=>a.length-i) 0 (by simp only[go_sem];rfl) (Nat.zero_le _) rfl ?_;rintro i hi;simp only[go_sem];refine⟨fun h=>⟨h,aj (kc (a.getD i U.zero).ed (Nat.le_trans (tc (cost:=U.cost) h _) I)) rfl (.inl (bJ _)) ?_⟩,fun h=>by rw[List.take_of_length_le (by omega)]⟩;simp only[go_sem];exact⟨by rw[List.length_take];omega,i+1,by omega,by omega,by rw[b7 h U.zero,aw h hm]⟩
def Bn(x:aW):D:=.av [.agg [.int .i64 x.c.ob,.vw (ints x.c.fr),.vw (ints x.c.to),.vw (ints x.c.an),.vw (aC x.c.co)],.vw (ints x.ed),ae U.d U.zero x.ls,.int .i64 0]
theorem Zv{x:aW}:(Bn x).strip=.av [af.d x.c,ints x.ed,ae U.d U.zero x.ls,.int .i64 0]:=by
 show D.av [.agg [_,(ints x.c.fr).strip,(ints x.c.to).strip,(ints x.c.an).strip,(aC x.c.co).strip],(ints x.ed).strip,(ae U.d U.zero x.ls).strip,_]=_;rw[dD,dD,dD,dD,uL,o6];rfl
def Ca:List Nat:=[0,2,3,4,5,1,6,7]
def Kb:Sl:=ah Tryz.types Tryz.f13 Ca []
theorem TQ:aE Tryz.prog Tryz.f13 Ca Kb 1=true:=by decide +kernel
theorem Ya(s:aa){x:aW}(V:s.ok=true)(Y:s.cn=some x):aA Tryz.prog 13 [.v (aa.d s)] (.vw (.av [af.d x.c,ints x.ed,ae U.d U.zero x.ls,.int .i64 0])):=by
 have h1:=sq s;rw[V] at h1;have I:=w7 s V;rw[wR Y] at I;obtain⟨W,Z⟩:=AM V Y
 have S:da U.cost x.ls<=1048576:=by
  have:da U.cost x.ls<=x.ls.length*(6+1):=yz fun p hp=>by
   obtain⟨y,hy⟩:=W p hp;exact(pE hy).2.1
  omega
 unfold aW.pD at I;rw[<-Zv];refine aA.vws (xs:=[_]) (res:=Bn x) ?_;show aA _ _ [.v (aa.d s)] _;unfold Bn;refine aQ Tryz.func13 TQ ?_;unfold Kb ah Ca;simp only[go_sem];refine aj h1 rfl (.inl rfl) ?_;simp only[go_sem];refine aj I rfl (.inr trivial) ?_;simp only[go_sem];refine⟨fun h=>(by cases h),fun _=>⟨?_,?_⟩⟩
 all_goals(
  refine aj (Yn x.ls S) rfl (.inl (p9 zY _)) ?_
  simp only[go_sem])
def CS:List Nat:=[0,1,4,5,68,69]
def KV:Sl:=ah Tryz.types Tryz.f50 CS []
theorem Uy:aE Tryz.prog Tryz.f50 CS KV 2=true:=by decide +kernel
theorem Yy(a:af)(S:af.cost a<=1048576):aA Tryz.prog 50 [.v (.ptr a.cells),.v (.ptr a.cells)] (.bool true):=by
 have I:a.fr.length<=1048576/\a.to.length<=1048576/\a.an.length<=1048576/\da List.length a.co<=1048576:=by unfold af.cost at S;omega
 have V:a.co.length<=1048576:=by have:=I.2.2.2;unfold da at this;omega
 have W:(a.ob != a.ob)=false:=bne_self_eq_false _;refine aQ Tryz.func50 Uy ?_;unfold KV ah CS;simp only[go_sem];refine bf (fun _=>uy a.fr a.fr I.1 I.1) rfl (fun h=>h) (.inl rfl) ?_;simp only[go_sem];refine⟨fun h=>by rw[h];rfl,bf (fun _=>uy a.to a.to I.2.1 I.2.1) rfl (fun h=>h) (.inl rfl) ?_⟩;simp only[go_sem];refine⟨(fun h=>by simp only[Bool.or_eq_false_iff,Bool.and_eq_true,Bool.not_eq_true',Bool.not_eq_false'] at h|-;exact h),bf (fun _=>uy a.an a.an I.2.2.1 I.2.2.1) rfl (fun h=>h) (.inl rfl) ?_⟩;simp only[go_sem];refine⟨(fun h=>by simp only[Bool.or_eq_false_iff,Bool.and_eq_true,Bool.not_eq_true',Bool.not_eq_false'] at h|-;exact h),(fun h=>by simp only[Bool.or_eq_false_iff,Bool.and_eq_true,Bool.not_eq_true',Bool.not_eq_false'] at h|-;exact h),fun h=>by simp at h,fun _=>?_⟩;refine au [3] (fun(k:Nat)=>[(5,.int .i64 k)]) (fun k=>k<=a.co.length) (fun k=>a.co.length-k) 0 (by simp only[go_sem];rfl) (Nat.zero_le _) rfl ?_;intro k hk;simp only[go_sem];intro h;refine⟨h,h,aj (uy (a.co.getD k []) (a.co.getD k []) (Nat.le_trans (tc (cost:=List.length) h _) I.2.2.2) (Nat.le_trans (tc (cost:=List.length) h _) I.2.2.2)) rfl (.inl rfl) ?_⟩;simp only[go_sem];exact⟨fun h=>by simp at h,fun _=>⟨k+1,h,by omega,by rw[aw h (by simp only[maxLen];omega)]⟩⟩
def CP:List Nat:=[0,1,4,5,7,12,13,14]
def KS:Sl:=ah Tryz.types Tryz.f51 CP []
theorem Uv:aE Tryz.prog Tryz.f51 CP KS 2=true:=by decide +kernel
theorem Yw{s:aa}(S:s.ok=true){x:aW}(Y:s.cn=some x){sz:List Int}{mp:List (List Int)}(I:s.du sz mp=true)(hb:s.brk sz mp s.lf.length=none) :
  aA Tryz.prog 51 [.v (x.pD s),.v (.ptr (x.eH sz mp).cells)] (aC mp):=by
 unfold aW.pD;have ab:=ql S Y;have a1:=ab.ed;have ax:=(iB I).2.2.1;have W:=ic (eX S).1;have ag:=W.f8
 have ad:(x.eH sz mp).act.length=x.c.fr.length:=by
  have hB:=xp S Y I hb;simp only[Sf.cU,Bool.and_eq_true] at hB;exact(Sf.dO.1 hB.1).sN
 refine aQ Tryz.func51 Uv ?_;unfold KS ah CP;simp only[go_sem];refine au [4] (fun(k:Nat)=>[(7,.int .i64 k),(3,.o (aC (mp.take k)))]) (fun k=>k<=x.ed.length) (fun k=>x.ed.length-k) 0 (by simp only[go_sem];rfl) (Nat.zero_le _) rfl ?_;intro k hk;simp only[go_sem];refine⟨fun h=>?_,fun h=>?_⟩
 ·obtain⟨-,-,⟨j,hj,ao,-⟩,-⟩:=yH S Y (k:=k) (by omega)
  have Z:=FQ S Y I hb (k:=k) (by omega) hj
  have V:(mp.getD k []).length<=1048576:=by
   have h1:=((iB I).2.2.2 k (by omega)).1;have h2:=(xd S I).2 (s.fr.getD k 0).toNat (by have:=db W.fr (i:=k) (by omega);have:=(iB I).1;omega);omega
  have a6:(mp.take k).length=k:=by rw[List.length_take];omega
  rw[hj,Int.toNat_natCast,Z];refine⟨h,⟨by omega,by omega⟩,aj (kc (mp.getD k []) V) rfl (.inl (bJ _)) ?_⟩;simp only[go_sem];exact⟨by omega,k+1,by omega,by omega,by rw[b7 (show k<mp.length by omega) [],aw h (by simp only[maxLen];omega)]⟩
 ·rw[List.take_of_length_le (by omega)]
def B6:List Nat:=[0,1,4,5,2,3,6,7]
def J7:Sl:=ah Tryz.types Tryz.f12 B6 []
theorem TM:aE Tryz.prog Tryz.f12 B6 J7 2=true:=by decide +kernel
theorem X6{s:aa}(I:s.ok=true){x:aW}(S:s.cn=some x){sz:List Int}{mp:List (List Int)}(hr:s.du sz mp=true)(Z:s.brk sz mp s.lf.length=none) :
  aA Tryz.prog 12 [.v (aa.d s),.v (Sf.d (x.eH sz mp))] (.av [aC mp,.int .i64 0]):=by
 have h1:=sq s;rw[I] at h1;have W:=Ju (x.eH sz mp);rw[xp I S hr Z] at W;have V:=w7 s I;rw[wR S] at V;have Y:=Yw I S hr Z;unfold aW.pD at V Y;refine aQ Tryz.func12 TM ?_;unfold J7 ah B6;simp only[go_sem];refine aj h1 rfl (.inl rfl) ?_;simp only[go_sem];refine bf (fun _=>W) rfl (fun _=>rfl) (.inl rfl) ?_;simp only[go_sem];refine aj V rfl (.inr trivial) ?_;simp only[go_sem];refine⟨fun h=>(by cases h),fun _=>?_⟩;refine ra (bs:=[_,_]) (Yy x.c (ql I S).sh.yx) rfl ⟨.inr ⟨5,_,rfl,rfl⟩,.inr ⟨5,_,rfl,rfl⟩,trivial⟩ (.inl rfl) ?_;simp only[go_sem];refine aj Y rfl (.inl (ow _)) ?_;simp only[go_sem]
def B8:List Nat:=[0,2,1]
def J9:Sl:=ah Tryz.types Tryz.f15 B8 []
theorem TO:aE Tryz.prog Tryz.f15 B8 J9 1=true:=by decide +kernel
theorem X8(f:Sf):aA Tryz.prog 15 [.v (Sf.d f)] (.bool f.cU):=by
 refine aQ Tryz.func15 TO ?_;unfold J9 ah B8;simp only[go_sem];refine aj (Ju f) rfl (.inl rfl) ?_;simp only[go_sem]
end Go.D3
