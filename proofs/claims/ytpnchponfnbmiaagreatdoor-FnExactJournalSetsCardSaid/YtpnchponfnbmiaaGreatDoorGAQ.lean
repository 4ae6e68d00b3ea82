/- CONTRACTS: the set functor of an instance, both sides. -/
import Derived.Test.YtpnchponfnbmiaaGreatDoorGAM
import Derived.Test.YtpnchponfnbmiaaGreatDoorGAO
import Derived.Test.YtpnchponfnbmiaaGreatDoorGAP
namespace Go.D3
open Go Proofs
set_option maxHeartbeats 4000000
set_option maxRecDepth 100000
def nj(mp:List (List Int))(p:U)(n:Nat):List Int:=(List.range n).map fun r:Nat=>iy mp r p.ed
def uC(sz:List Int)(mp:List (List Int))(p:U):List Int:=nj mp p (sz.getD p.st.toNat 0).toNat
theorem xq{mp:List (List Int)}{p:U}{n:Nat}:(nj mp p n).length=n:=by simp[nj]
theorem D8{mp:List (List Int)}{p:U}{n:Nat}:nj mp p (n+1)=nj mp p n++[iy mp n p.ed]:=by
 unfold nj;rw[List.range_succ,List.map_append];rfl
def jR(sz:List Int)(mp:List (List Int))(l:List U):List (List Int):=l.map (uC sz mp)
def bj.ua(x:bj)(sz:List Int)(mp:List (List Int)):Sf:=⟨x.c,sz,jR sz mp x.ls⟩
theorem AX{s:aa}(h:s.ok=true){sz:List Int}{mp:List (List Int)}(hr:s.fV sz mp=true):sz.length<=8/\∀i,i<sz.length->0<=sz.getD i 0/\sz.getD i 0<=16:=by
 obtain⟨h1,h2,_,_⟩:=ow hr;have hn:=(gw (fj h).1).n8;exact⟨by omega,fun i hi=>by have:=eM h2 hi;omega⟩
def Dy:List Nat:=[0,1,2,6,3,7,8,9,10]
def L0:Sl:=ah Tryz.types Tryz.f62 Dy []
theorem Vp:aC Tryz.prog Tryz.f62 Dy L0 3=true:=by decide +kernel
theorem YX{s:aa}(hs:s.ok=true){x:bj}(hx:s.cO=some x){sz:List Int}{mp:List (List Int)}(hr:s.fV sz mp=true) :
  aw Tryz.prog 62 [.v (.agg x.sL),.v (ints sz),.v (aF mp)] (Sf.d (x.ua sz mp)):=by
 have hta:=Aq hs hx;obtain⟨hsp,h40⟩:=Ap hs hx;obtain⟨z1,z2⟩:=AX hs hr;have hnd:=(ow hr).1;unfold bj.sL;refine aK Tryz.func62 Vp ?_;unfold L0 ah Dy;simp only[go_sem];refine an (YP x.c hta.sh.yh) rfl (.inl (H7 _)) ?_;simp only[go_sem];refine an (jf sz (by omega)) rfl (.inl (bT _)) ?_;simp only[go_sem];refine aE [7,8] (fun(i:Nat)=>[(6,.int .i64 i),(5,.box [.int .i64 x.c.ob,.o (ints x.c.fr),.o (ints x.c.to),.o (ints x.c.aU),.o (aF x.c.co),.o (ints sz),.o (aF (jR sz mp (x.ls.take i)))])]) (fun i=>i<=x.ls.length) (fun i=>x.ls.length-i) 0 (by simp only[go_sem];rfl) (Nat.zero_le _) rfl ?_;intro i hi;have hal:∀l,(jR sz mp l).length=l.length:=fun l=>List.length_map _
 simp only[go_sem];refine⟨fun h1=>?_,fun h1=>?_⟩
 ·obtain⟨y,hy⟩:=hsp _ (dv (d:=U.zero) h1)
  obtain⟨a1,a2,a3⟩:=qM hy;obtain⟨b1,b2⟩:=z2 (x.ls.getD i U.zero).st.toNat (by omega);have hw:=aL h1 (show x.ls.length<=maxLen by simp only[maxLen];omega);refine aE [] (fun(r:Nat)=>[(7,.o (ints (nj mp (x.ls.getD i U.zero) r))),(8,.int .i64 r)]) (fun r=>(r:Int)<=sz.getD (x.ls.getD i U.zero).st.toNat 0) (fun r=>(sz.getD (x.ls.getD i U.zero).st.toNat 0).toNat-r) 0 (by simp only[go_sem];rfl) b1 rfl ?_;intro r hr1;simp only[go_sem];refine⟨h1,by omega,fun h2=>?_,fun h2=>?_⟩
  ·refine⟨h1,an (AS mp _ r (sS hr a3 (by omega) h2)) rfl (.inl rfl) ?_⟩
   simp only[go_sem];refine⟨by rw[xq];omega,r+1,by omega,by omega,?_⟩;rw[wrap_small (by omega) (by omega),D8];rfl
  ·refine⟨by rw[hal,List.length_take];omega,i+1,h1,by omega,?_⟩
   rw[hw,bN h1 U.zero];unfold jR;rw[List.map_append];simp only[List.map_cons,List.map_nil,uC];rw[show(sz.getD (x.ls.getD i U.zero).st.toNat 0).toNat=r by omega]
 ·rw[List.take_of_length_le (by omega)];rfl
def CI:List Nat:=[0,1,2,6,7,9,10,11,22,23,24,33,34]
def K7:Sl:=ah Tryz.types Tryz.f109 CI []
theorem Uz:aC Tryz.prog Tryz.f109 CI K7 3=true:=by decide +kernel
theorem Ye{s:aa}(hs:s.ok=true){x:bj}(hx:s.cO=some x){sz:List Int}{mp:List (List Int)}(hr:s.fV sz mp=true) :
  aw Tryz.prog 109 [.v (x.pD s),.v (ints sz),.v (aF mp)] (Sf.d (x.ua sz mp)):=by
 have hta:=Aq hs hx;obtain⟨hsp,h40⟩:=Ap hs hx;obtain⟨z1,z2⟩:=AX hs hr;have hnd:=(ow hr).1;unfold bj.pD;refine aK Tryz.func109 Uz ?_;unfold K7 ah CI;simp only[go_sem];refine qA (bs:=[_]) (Xz x.c hta.sh.yh) rfl ⟨.inr ⟨5,_,rfl,rfl⟩,trivial⟩ (.inl (H7 _)) ?_;simp only[go_sem];refine an (kN sz (by omega)) rfl (.inl (bT _)) ?_;simp only[go_sem];refine aE [5,6,7,11,12] (fun(i:Nat)=>[(4,.box [.int .i64 x.c.ob,.o (ints x.c.fr),.o (ints x.c.to),.o (ints x.c.aU),.o (aF x.c.co),.o (ints sz),.o (aF (jR sz mp (x.ls.take i)))]),(10,.int .i64 i)]) (fun i=>i<=x.ls.length) (fun i=>x.ls.length-i) 0 (by simp only[go_sem];rfl) (Nat.zero_le _) rfl ?_;intro i hi;have hal:∀l,(jR sz mp l).length=l.length:=fun l=>List.length_map _
 simp only[go_sem];refine⟨fun h1=>?_,fun h1=>?_⟩
 ·obtain⟨y,hy⟩:=hsp _ (dv (d:=U.zero) h1)
  obtain⟨a1,a2,a3⟩:=qM hy;obtain⟨b1,b2⟩:=z2 (x.ls.getD i U.zero).st.toNat (by omega);have hw:=aL h1 (show x.ls.length<=maxLen by simp only[maxLen];omega);refine⟨h1,by omega,?_⟩;refine aE [7] (fun(r:Nat)=>[(6,.o (ints (nj mp (x.ls.getD i U.zero) r))),(12,.int .i64 r)]) (fun r=>(r:Int)<=sz.getD (x.ls.getD i U.zero).st.toNat 0) (fun r=>(sz.getD (x.ls.getD i U.zero).st.toNat 0).toNat-r) 0 (by simp only[go_sem];rfl) b1 rfl ?_;intro r hr1;simp only[go_sem];refine⟨fun h2=>?_,fun h2=>?_⟩
  ·refine an (AO mp _ r (sS hr a3 (by omega) h2)) rfl (.inl rfl) ?_
   simp only[go_sem];refine⟨by rw[xq];omega,r+1,by omega,by omega,?_⟩;rw[wrap_small (by omega) (by omega),D8];rfl
  ·refine⟨by rw[hal,List.length_take];omega,i+1,h1,by omega,?_⟩
   rw[hw,bN h1 U.zero];unfold jR;rw[List.map_append];simp only[List.map_cons,List.map_nil,uC];rw[show(sz.getD (x.ls.getD i U.zero).st.toNat 0).toNat=r by omega]
 ·rw[List.take_of_length_le (by omega)];rfl
end Go.D3
