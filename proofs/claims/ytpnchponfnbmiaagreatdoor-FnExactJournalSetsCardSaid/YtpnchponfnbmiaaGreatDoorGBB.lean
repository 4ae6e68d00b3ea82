/- CONTRACTS: the set functor of a journal, the reference's side. -/
import Derived.Test.YtpnchponfnbmiaaGreatDoorGAQ
import Derived.Test.YtpnchponfnbmiaaGreatDoorGBA
namespace Go.D3
open Go Proofs
set_option maxHeartbeats 4000000
set_option maxRecDepth 100000
noncomputable def ky:Option (aa×Hs)->Sf×Int
 | some p=>match p.1.cO with
  | some x=>(x.ua p.2.last.sz p.2.last.mp,0)
  | none=>(Sf.zero,3)
 | none=>(Sf.zero,6)
theorem y9{o:Option (aa×Hs)}(h:o=none):ky o=(Sf.zero,6):=by rw[h];rfl
theorem y8{p:aa×Hs}(h:p.1.cO=none):ky (some p)=(Sf.zero,3):=by unfold ky;simp only[h]
theorem za{p:aa×Hs}{x:bj}(h:p.1.cO=some x):ky (some p)=(x.ua p.2.last.sz p.2.last.mp,0):=by unfold ky;simp only[h]
theorem aaG{s:aa}(h:s.cO=none):kT s=.al [.agg bj.none.sL,.bool false]:=by unfold kT;rw[h]
theorem aaH{s:aa}{x:bj}(h:s.cO=some x):kT s=.al [.agg x.sL,.bool true]:=by unfold kT;rw[h]
theorem zf{t:List UInt8}{p:aa×Hs}(h:de t=some p):p.1.fV p.2.last.sz p.2.last.mp=true/\p.1.brk p.2.last.sz p.2.last.mp p.1.lf.length=none:=by
 have:=QO h;unfold ak.fJ at this
 rwa [Bool.and_eq_true,Option.isNone_iff_eq_none] at this
def C3:List Nat:=[0,2,3,4,5,6,7]
def Lr:Sl:=ah Tryz.types Tryz.f18 C3 [(0,60)]
theorem UU:aC Tryz.prog Tryz.f18 C3 Lr 1=true:=by decide +kernel
theorem YF(t:List UInt8)(ht:t.length<=1048576):aw Tryz.prog 18 [.v (.str t)] (.al [Sf.d (ky (de t)).1,.int .i64 (ky (de t)).2]):=by
 have ho:=Yu t (by omega);refine aK Tryz.func18 UU ?_;unfold Lr ah C3;simp only[go_sem];refine jB [] false ho ?_;cases hr:de t with
 | none =>
  simp only[we,y9];simp only[go_sem];rfl
 | some p =>
  obtain⟨hok,hH⟩:=wG hr;have hdl:=hH.dl;have h6:=hH.t6;have hgl:=hH.gl;have htb:=Zb p.1 hok;have hlast:=Ym (bZ.of p.1 p.2) (by show 0<p.2.dt.length;omega) (by show p.2.dt.length<=_;omega);rw[QN] at hlast;have hlast:aw Tryz.prog 63 [.v (bZ.d (bZ.of p.1 p.2))] (.agg [.vw (ints p.2.last.sz),.vw (aF p.2.last.mp)]):=hlast;simp only[we,Hs.pl];simp only[go_sem];cases hp:p.1.cO with
  | none =>
   rw[aaG hp] at htb;rw[y8 hp];refine an htb rfl (.inr trivial) ?_;simp only[go_sem,bj.sL];rfl
  | some x =>
   rw[aaH hp] at htb;rw[za hp];have aM:=YX hok hp (zf hr).1;unfold bj.sL at htb aM;refine an htb rfl (.inr trivial) ?_;simp only[go_sem];refine an hlast rfl (.inr trivial) ?_;simp only[go_sem];refine an hlast rfl (.inr trivial) ?_;simp only[go_sem];refine an aM rfl (.inl (pG _)) ?_;simp only[go_sem]
end Go.D3
