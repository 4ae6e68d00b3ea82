/- CONTRACTS: the schema of a category, the reference's side. -/
import Derived.Test.YtaknpcdnmecblaaGreatDoorGBK
import Derived.Test.YtaknpcdnmecblaaGreatDoorGAS
namespace Go.D3
open Go Proofs
set_option maxHeartbeats 4000000
set_option maxRecDepth 100000
def pg(rc:D)(gs:List D):Prop:=gs=[]/\∃l,rc=.o (.av l)/\∃(s:aa)(e:Int),l=[aa.d s,.int .i64 e]/\(e=0->s.ok=true)
theorem pg.zero{e:Int}(h:e≠0):pg (.o (.av [aa.d aa.zero,.int .i64 e])) []:=⟨rfl,_,rfl,aa.zero,e,rfl,fun I=>absurd I h⟩
theorem zH{α:Type}{f:Nat->α}{n:Nat}:(List.range (n+1)).map f=(List.range n).map f++[f n]:=by simp[List.range_succ]
theorem zO{l:List U}:∀e∈l.map U.d,(decide (e.cells.length=2)&&oy e.cells)=true:=fun e he=>by obtain⟨p,_,rfl⟩:=List.mem_map.1 he;rfl
def C7:List Nat:=[0,2,3,1,4,6,7,8,9,10,11,12,13]
def K9:Sl:=ah Tryz.types Tryz.f86 C7 [(0,156),(0,157),(3,13)]
theorem UN:aE Tryz.prog Tryz.f86 C7 K9 1=true:=by decide +kernel
theorem YN(c:af):bn Tryz.prog 86 [c.d] [] pg:=by
 have h1:=Bb c;refine dB .tree Tryz.func86 UN ?_;unfold K9 ah C7;simp only[go_sem];refine aj h1 rfl (.inl rfl) ?_;cases hb:c.cU with
 | false =>
  simp only[go_sem];exact⟨_,_,pg.zero (e:=1) (by decide),rfl,rfl,trivial⟩
 | true =>
  simp only[go_sem]
  have hs:c.Shape:=by
   have:=hb;simp only[af.cU,Bool.and_eq_true] at this;exact af.dO.1 this.1
  have hw:=af.Wf.of hs;have a8:=hs.fr;have b2:=hw.bQ;have a1:=hw.eu;refine bj [] false (YK c hb) ?_;rintro _ _ ⟨rfl,I,rfl,hg⟩;refine⟨(by repeat(first | exact trivial | refine⟨(fun h=>by cases h),?_⟩)),(fun h=>by cases h),?_⟩;have bg:=hg.1;simp only[go_sem];refine bj [] true (Zj c hs I hg) ?_;rintro _ _ ⟨rfl,out,ok,rfl,dp,ho⟩;refine⟨(by repeat(first | exact trivial | refine⟨(fun h=>by cases h),?_⟩)),(fun _=>⟨?_,rfl⟩),?_⟩
  ·simp only[D.iF,D.pb,D.bA,eR,p9 zY,Bool.and_true]
  simp only[go_sem];refine⟨fun _=>⟨_,_,pg.zero (e:=4) (by decide),rfl,rfl,trivial⟩,fun _=>?_⟩;obtain⟨bF,ao⟩:∃F:Nat->Int,F=fun k=>c.fr.getD (I.getD k 0).toNat 0:=⟨_,rfl⟩
  obtain⟨bT,ax⟩:∃F:Nat->Int,F=fun k=>c.to.getD (I.getD k 0).toNat 0:=⟨_,rfl⟩
  have ag:∀{k:Nat},k<I.length->IntKind.i64.wrap ((k:Int)+1)=((k+1:Nat):Int):=fun h=>aw h (by simp only[maxLen];omega)
  refine au [] (fun(k:Nat)=>[(8,.int .i64 k),(7,.box [.int .i64 c.ob,.o (ints ((List.range k).map bF)),.o (ints ((List.range k).map bT)),.o (ae U.d U.zero []),.o (ae U.d U.zero [])])]) (fun k=>k<=I.length) (fun k=>I.length-k) 0 (by simp only[go_sem];rfl) (Nat.zero_le _) rfl ?_;intro k hk;have lF:((List.range k).map bF).length=k:=by simp
  have lT:((List.range k).map bT).length=k:=by simp
  simp only[go_sem];refine⟨fun V=>?_,fun V=>?_⟩
  ·obtain⟨g,W,ad⟩:=hg.nat V
   refine aj (eE ((List.range k).map bF) (by omega)) rfl (.inl (bJ _)) ?_;simp only[go_sem];rw[W];refine⟨V,⟨by omega,by omega⟩,by omega,?_⟩;refine aj (eE ((List.range k).map bT) (by omega)) rfl (.inl (bJ _)) ?_;simp only[go_sem];refine⟨V,by rw[W];omega,by omega,k+1,by omega,by omega,?_⟩;rw[ag V,zH,zH,ao,ax];simp only[W,Int.toNat_natCast]
  obtain rfl:k=I.length:=by omega
  generalize(List.range I.length).map bF=LF;generalize(List.range I.length).map bT=LT;refine au [10,11,12] (fun(p:Nat×List U×List U)=>[(9,.int .i64 p.1),(7,.box [.int .i64 c.ob,.o (ints LF),.o (ints LT),.o (ae U.d U.zero p.2.1),.o (ae U.d U.zero p.2.2)])]) (fun p=>p.1<=c.fr.length/\p.2.1.length<=8/\p.2.2.length<=8/\p.2.2.length=p.2.1.length) (fun p=>c.fr.length-p.1) (0,[],[]) (by simp only[go_sem];rfl) ⟨Nat.zero_le _,Nat.zero_le _,Nat.zero_le _,rfl⟩ rfl ?_;rintro⟨f,L,R⟩ ⟨hf,Z,hR,S⟩;simp only at hf Z hR S;simp only[go_sem];refine⟨fun V=>?_,fun V=>?_⟩
  ·refine au [11,12] (fun(p:Nat×List U×List U)=>[(10,.int .i64 p.1),(7,.box [.int .i64 c.ob,.o (ints LF),.o (ints LT),.o (ae U.d U.zero p.2.1),.o (ae U.d U.zero p.2.2)])]) (fun p=>p.1<=I.length/\p.2.1.length<=8/\p.2.2.length<=8/\p.2.2.length=p.2.1.length) (fun p=>I.length-p.1) (0,L,R) (by simp only[go_sem];rfl) ⟨Nat.zero_le _,Z,hR,S⟩ rfl ?_
   clear Z hR S;rintro⟨k,L,R⟩ ⟨hk,Z,hR,S⟩;simp only at hk Z hR S;simp only[go_sem];refine⟨fun Y=>?_,fun Y=>?_⟩
   ·refine aj (xc c hs f V) rfl (.inl rfl) ?_
    simp only[go_sem];obtain⟨g,W,ad⟩:=hg.nat Y;rw[W];have ab:=ag Y;refine⟨fun h=>⟨h,Y⟩,fun h=>⟨h,by omega,by omega⟩,fun h=>⟨h,by omega⟩,fun h=>by rw[h];rfl,fun h4=>⟨(k+1,L,R),⟨Y,Z,hR,S⟩,by simp only;omega,by rw[ab]⟩,fun h4=>?_⟩;rw[Int.toNat_natCast] at h4;simp only[Bool.or_eq_false_iff,bne_eq_false_iff_eq] at h4;have a7:=ho f V;refine⟨by omega,by omega,aj (eE (out.getD f U.zero).ed (by omega)) rfl (.inl (bJ _)) ?_⟩;simp only[go_sem];obtain⟨h,k1,k2⟩:=yn hw V ad h4.2.symm;have b1:=hw.row f V;have b0:=ho h k2;have ht:=xb c f g (by omega) (by omega) (by omega) (by rw[Int.toNat_natCast];omega);rw[k1] at ht;refine⟨by omega,Y,?_⟩;rw[W];refine aj ht rfl (.inl rfl) ?_;simp only[go_sem];refine⟨by omega,by omega,?_⟩;refine aj (ss ((out.getD f U.zero).ed++[(k:Int)]) (out.getD h U.zero).ed (by rw[List.length_append,List.length_singleton];omega)) rfl (.inl rfl) ?_;simp only[go_sem];refine⟨fun _=>⟨(k+1,L,R),⟨Y,Z,hR,S⟩,by simp only;omega,by rw[ab]⟩,fun _=>⟨fun _=>⟨_,_,pg.zero (e:=3) (by decide),rfl,rfl,trivial⟩,fun h5=>?_⟩⟩
    have a6:L.length+1<=8:=by
     have:¬(L.length:Int)=8:=by simpa using h5
     omega
    have b3:(L.map U.d).length=L.length:=List.length_map _;have b4:(R.map U.d).length=R.length:=List.length_map _
    with_reducible (repeat' apply And.intro)
    all_goals first
     | exact zO
     | omega
     | (refine aj (eE (out.getD h U.zero).ed (by omega)) rfl (.inl (bJ _)) ?_
        simp only[go_sem]
        with_reducible (repeat' apply And.intro)
        all_goals first
         | exact zO
         | omega
         | exact⟨(k+1,L++[⟨c.fr.getD f 0,(out.getD f U.zero).ed++[(k:Int)]⟩],R++[⟨c.fr.getD f 0,(out.getD h U.zero).ed⟩]),⟨Y,by simp only[List.length_append,List.length_singleton];omega,by simp only[List.length_append,List.length_singleton];omega,by simp only[List.length_append,List.length_singleton];omega⟩,by simp only;omega,by rw[ab]⟩)
   ·exact⟨(f+1,L,R),⟨V,Z,hR,S⟩,by simp only;omega,by rw[aw V (by simp only[maxLen];omega)]⟩
  ·refine aj (w9 ⟨c.ob,LF,LT,L,R⟩) rfl (.inl rfl) ?_
   simp only[go_sem];exact⟨fun _=>⟨_,_,pg.zero (e:=3) (by decide),rfl,rfl,trivial⟩,fun hk=>⟨_,_,⟨rfl,_,rfl,⟨c.ob,LF,LT,L,R⟩,0,rfl,fun _=>by simpa using hk⟩,rfl,rfl,trivial⟩⟩
end Go.D3
