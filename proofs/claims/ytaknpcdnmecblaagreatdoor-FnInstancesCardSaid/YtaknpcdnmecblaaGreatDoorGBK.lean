/- CONTRACTS: least paths to the arrows of a category, the reference's side. -/
import Derived.Test.YtaknpcdnmecblaaGreatDoorGBD
import Derived.Test.YtaknpcdnmecblaaGreatDoorGAA
namespace Go.D3
open Go Proofs
set_option maxHeartbeats 4000000
set_option maxRecDepth 100000
def DA:List Nat:=[0,1,4,2]
def LD:Sl:=ah Tryz.types Tryz.f158 DA []
theorem Vg:aE Tryz.prog Tryz.f158 DA LD 2=true:=by decide +kernel
theorem xc(c:af)(I:c.Shape)(f:Nat)(S:f<c.fr.length):aA Tryz.prog 158 [.v c.d,.v (.int .i64 f)] (.bool (c.fG (c.fr.getD f 0) == f)):=by
 have h1:=db I.rz S;have V:=I.an;refine aQ Tryz.func158 Vg ?_;unfold LD ah DA;simp only[go_sem];exact⟨S,⟨h1.1,by omega⟩,rfl⟩
def uV(N:Nat)(l:List Int):Prop:=l.length<=N/\∀i,i<l.length->0<=l.getD i 0/\l.getD i 0<N
theorem uV.nat{N:Nat}{l:List Int}(h:uV N l){i:Nat}(hi:i<l.length):∃k:Nat,l.getD i 0=k/\k<N:=⟨(l.getD i 0).toNat,by have:=h.2 i hi;omega,by have:=h.2 i hi;omega⟩
def Ny(N:Nat)(rc:D)(gs:List D):Prop:=gs=[]/\∃l,rc=.o (.av [ints l,.int .i64 0])/\uV N l
theorem yn{c:af}(h:c.Wf){f g:Nat}(I:f<c.fr.length)(hg:g<c.fr.length)(e:c.to.getD f 0=c.fr.getD g 0):∃k:Nat,c.bH f g=k/\k<c.fr.length:=by
 obtain⟨k,S,V,_⟩:=(h.kx f g I hg).2 e;exact⟨k,S,V⟩
def C3:List Nat:=[0,2,3,1,4,5,6,7,8]
def K5:Sl:=ah Tryz.types Tryz.f156 C3 []
theorem UJ:aE Tryz.prog Tryz.f156 C3 K5 1=true:=by decide +kernel
theorem YK(c:af)(hb:c.cU=true):bn Tryz.prog 156 [c.d] [] (Ny c.fr.length):=by
 have hs:c.Shape:=by
  have:=hb;simp only[af.cU,Bool.and_eq_true] at this;exact af.dO.1 this.1
 have hw:=af.Wf.of hs;have ad:=hs.fr;have ao:=hw.bQ;have ab:=hw.eu;have h1:=Bb c;rw[hb] at h1;have Y:∀{k:Nat},k<c.fr.length->IntKind.i64.wrap ((k:Int)+1)=((k+1:Nat):Int):=fun h=>aw h (by simp only[maxLen];omega)
 refine dB .tree Tryz.func156 UJ ?_;unfold K5 ah C3;simp only[go_sem];refine aj h1 rfl (.inl rfl) ?_;simp only[go_sem];refine⟨by omega,?_⟩;refine au [6] (fun(p:Nat×List Bool)=>[(5,.int .i64 p.1),(4,.o (jg p.2))]) (fun p=>p.1<=c.fr.length/\p.2.length=c.fr.length) (fun p=>c.fr.length-p.1) (0,List.replicate c.fr.length false) (by simp only[go_sem];rfl) ⟨Nat.zero_le _,List.length_replicate⟩ rfl ?_;rintro⟨f,S⟩ ⟨hf,hS⟩;simp only at hf hS;simp only[go_sem];refine⟨fun h2=>?_,fun h2=>?_⟩
 ·have V:f<c.fr.length:=by omega
  refine au [] (fun(p:Nat×List Bool)=>[(6,.int .i64 p.1),(4,.o (jg p.2))]) (fun p=>p.1<=c.fr.length/\p.2.length=c.fr.length) (fun p=>c.fr.length-p.1) (0,S) (by simp only[go_sem];rfl) ⟨Nat.zero_le _,hS⟩ rfl ?_;rintro⟨g,S1⟩ ⟨hg,Z⟩;simp only at hg Z;simp only[go_sem];refine⟨fun h3=>?_,fun h3=>?_⟩
  ·have I:g<c.fr.length:=by omega
   refine⟨by omega,I,bf (fun _=>xc c hs f V) rfl (fun h=>h) (.inl rfl) ?_⟩;simp only[go_sem];refine bf (fun _=>xc c hs g I) rfl (fun h=>h) (.inl rfl) ?_;simp only[go_sem];refine⟨fun h4=>?_,fun h4=>⟨(g+1,S1),⟨I,Z⟩,by simp only;omega,by rw[Y I]⟩⟩;simp only[Bool.and_eq_true,beq_iff_eq] at h4;have ag:=hw.row f V;obtain⟨k,k1,k2⟩:=yn hw V I h4.1.1;have ht:=xb c f g (by omega) (by omega) (by omega) (by rw[Int.toNat_natCast];omega);rw[k1] at ht;refine aj ht rfl (.inl rfl) ?_;simp only[go_sem];exact⟨by omega,by omega,(g+1,S1.set k true),⟨I,by simp only[List.length_set];exact Z⟩,by simp only;omega,by rw[Y I]⟩
  ·exact⟨(f+1,S1),⟨V,Z⟩,by simp only;omega,by rw[Y V]⟩
 clear h2 hf;refine au [] (fun(p:Nat×List Int)=>[(8,.int .i64 p.1),(7,.o (ints p.2))]) (fun p=>p.1<=c.fr.length/\p.2.length<=p.1/\∀i,i<p.2.length->0<=p.2.getD i 0/\p.2.getD i 0<c.fr.length) (fun p=>c.fr.length-p.1) (0,[]) (by simp only[go_sem];rfl) ⟨Nat.zero_le _,Nat.le_refl _,fun i hi=>absurd hi (Nat.not_lt_zero _)⟩ rfl ?_;rintro⟨j,l⟩ ⟨hj,hl,hI⟩;simp only at hj hl hI;simp only[go_sem];refine⟨fun h2=>?_,fun h2=>?_⟩
 ·have W:j<c.fr.length:=by omega
  refine⟨by omega,bf (fun _=>xc c hs j W) rfl (fun h=>h) (.inl rfl) ?_⟩;simp only[go_sem];refine⟨fun h3=>⟨by omega,(j+1,l++[(j:Int)]),⟨W,by simp only[List.length_append,List.length_singleton];omega,fun i hi=>?_⟩,by simp only;omega,by rw[Y W]⟩,fun h3=>⟨(j+1,l),⟨W,by simp only;omega,hI⟩,by simp only;omega,by rw[Y W]⟩⟩;simp only[List.length_append,List.length_singleton] at hi;show 0<=(l++[(j:Int)]).getD i 0/\(l++[(j:Int)]).getD i 0<c.fr.length;by_cases e:i<l.length
  ·rw[fF e];exact hI i e
  ·rw[fS (by omega),show i-l.length=0 by omega]
   show 0<=(j:Int)/\(j:Int)<c.fr.length;omega
 ·exact⟨_,_,⟨rfl,l,rfl,by omega,hI⟩,rfl,rfl,trivial⟩
end Go.D3
namespace Go.D3
open Go Proofs
set_option maxHeartbeats 4000000
set_option maxRecDepth 100000
def NS(N:Nat)(rc:D)(gs:List D):Prop:=gs=[]/\∃(out:List U)(ok:Bool),rc=.o (.av [ae U.d U.zero out,.bool ok])/\out.length=N/\∀i,i<N->(out.getD i U.zero).ed.length<=48
def D8:List Nat:=[0,1,4,5,2,6,7,8,9,10,11,12,13]
def Mg:Sl:=ah Tryz.types Tryz.f157 D8 []
theorem VP:aE Tryz.prog Tryz.f157 D8 Mg 2=true:=by decide +kernel
theorem Zj(c:af)(hs:c.Shape)(S:List Int)(hg:uV c.fr.length S):bn Tryz.prog 157 [c.d,ints S] [] (NS c.fr.length):=by
 have hw:=af.Wf.of hs;have bF:=hs.fr;have h8:=hs.ox;have h0:=hs.cZ;have b1:=hw.bQ;have a8:=hw.eu;have bg:=hw.cP;have bT:=hg.1;refine dB .tree Tryz.func157 VP ?_;unfold Mg ah D8;simp only[go_sem];refine⟨by omega,by omega,?_⟩;refine au [] (fun(p:Nat×List U×List Bool×List Int)=>[(8,.int .i64 p.1),(5,.o (ae U.d U.zero p.2.1)),(6,.o (jg p.2.2.1)),(7,.o (ints p.2.2.2))]) (fun p=>(p.1:Int)<=c.ob/\je c.fr.length p.1 p.2.2.2 p.2.1 p.2.2.1) (fun p=>c.ob.toNat-p.1) (0,List.replicate c.fr.length U.zero,List.replicate c.fr.length false,[]) (by simp only[go_sem];rfl) ⟨h0,.zero⟩ rfl ?_;rintro⟨x,out,Z,ord⟩ ⟨hx,I⟩;simp only at hx I;have dp:=I.o;have W:=I.k;have Y:=I.len;simp only[go_sem];refine⟨fun h1=>?_,fun h1=>?_⟩
 ·obtain⟨k,k1,k2,_⟩:=hw.jT x (by omega)
  rw[k1];have ag:=I.start k2 (x:Int);refine⟨by omega,by omega,by omega,by omega,by omega,by omega,by omega,by omega,(x+1,out.set k ⟨x,[]⟩,Z.set k true,ord++[(k:Int)]),⟨by simp only;omega,ag⟩,by simp only;omega,by rw[aw (i:=x) (n:=9) (by omega) (by decide)];rfl⟩
 obtain⟨n,hn⟩:∃n:Nat,c.ob=n:=⟨c.ob.toNat,by omega⟩;obtain rfl:x=n:=by omega
 clear h1 hx;refine au [10,11,12] (fun(p:Nat×List U×List Bool×List Int)=>[(9,.int .i64 p.1),(5,.o (ae U.d U.zero p.2.1)),(6,.o (jg p.2.2.1)),(7,.o (ints p.2.2.2))]) (fun p=>p.1<=p.2.2.2.length/\je c.fr.length x p.2.2.2 p.2.1 p.2.2.1) (fun p=>49-p.1) (0,out,Z,ord) (by simp only[go_sem];rfl) ⟨Nat.zero_le _,I⟩ rfl ?_;clear I dp W Y;rintro⟨i,out,Z,ord⟩ ⟨hi,I⟩;simp only at hi I;have dp:=I.o;have W:=I.k;have Y:=I.len;simp only[go_sem];refine⟨fun h1=>⟨h1,?_⟩,fun h1=>?_⟩
 ·have hr:=I.r i h1
  obtain⟨f,V⟩:∃f:Nat,ord.getD i 0=f:=⟨(ord.getD i 0).toNat,by omega⟩;rw[V];refine au [12] (fun(p:Nat×List U×List Bool×List Int)=>[(11,.int .i64 p.1),(5,.o (ae U.d U.zero p.2.1)),(6,.o (jg p.2.2.1)),(7,.o (ints p.2.2.2))]) (fun p=>p.1<=S.length/\(i<p.2.2.2.length/\p.2.2.2.getD i 0=f)/\je c.fr.length x p.2.2.2 p.2.1 p.2.2.1) (fun p=>S.length-p.1) (0,out,Z,ord) (by simp only[go_sem];rfl) ⟨Nat.zero_le _,⟨h1,V⟩,I⟩ rfl ?_;clear I dp W Y h1 hi hr V;rintro⟨k,out,Z,ord⟩ ⟨hk,⟨hi,V⟩,I⟩;simp only at hk hi V I;have dp:=I.o;have W:=I.k;have Y:=I.len;have hr:=I.r i hi;rw[V] at hr;have ab:f<c.fr.length:=by omega
  simp only[go_sem];refine⟨fun h2=>?_,fun h2=>?_⟩
  ·obtain⟨g,a1,ao⟩:=hg.nat h2
   rw[a1];have ad:=aw h2 (show S.length<=maxLen by simp only[maxLen];omega);refine⟨h2,by omega,by omega,fun h3=>⟨(k+1,out,Z,ord),⟨h2,⟨hi,V⟩,I⟩,by simp only;omega,by rw[ad]⟩,fun h3=>⟨h2,?_⟩⟩;rw[Int.toNat_natCast] at h3;obtain⟨h,h4,h5⟩:=yn hw ab ao (by simp at h3;exact h3.symm);have b0:=hw.row f ab;have ht:=xb c f g (by omega) (by omega) (by omega) (by rw[Int.toNat_natCast];omega);rw[h4] at ht;refine aj ht rfl (.inl rfl) ?_;simp only[go_sem];refine⟨by omega,fun h6=>?_,fun h6=>⟨(k+1,out,Z,ord),⟨h2,⟨hi,V⟩,I⟩,by simp only;omega,by rw[ad]⟩⟩;have hp:=I.p f ab;have a7:=I.next (a:=h) h5 (by simpa using h6) (q:=⟨(out.getD f U.zero).st,(out.getD f U.zero).ed++[(k:Int)]⟩) (by simp only[List.length_append,List.length_singleton];omega);have ax:(ord++[(h:Int)]).getD i 0=f:=by rw[fF hi];exact V
   have a6:i<(ord++[(h:Int)]).length:=by rw[List.length_append];omega
   with_reducible (repeat' apply And.intro)
   all_goals try omega
   all_goals(
    refine aj (eE (out.getD f U.zero).ed (by omega)) rfl (.inl (bJ _)) ?_;simp only[go_sem]
    with_reducible (repeat' apply And.intro)
    all_goals first
     | omega
     | exact⟨(k+1,out.set h ⟨(out.getD f U.zero).st,(out.getD f U.zero).ed++[(k:Int)]⟩,Z.set h true,ord++[(h:Int)]),⟨h2,⟨a6,ax⟩,a7⟩,by simp only;omega,by rw[ad]⟩)
  ·exact⟨(i+1,out,Z,ord),⟨hi,I⟩,by simp only;omega,by rw[aw (i:=i) (n:=49) (by omega) (by decide)]⟩
 ·exact⟨_,_,⟨rfl,out,_,rfl,dp,fun j hj=>by have:=I.p j hj;omega⟩,rfl,rfl,trivial⟩
end Go.D3
