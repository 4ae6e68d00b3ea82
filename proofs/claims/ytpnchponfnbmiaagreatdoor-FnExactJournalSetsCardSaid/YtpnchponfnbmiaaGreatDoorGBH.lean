/- CONTRACTS: the set functor of an instance and of a journal, the program's side. -/
import Derived.Test.YtpnchponfnbmiaaGreatDoorGBB
import Derived.Test.YtpnchponfnbmiaaGreatDoorGBG
namespace Go.D3
open Go Proofs
set_option maxHeartbeats 4000000
set_option maxRecDepth 100000
theorem Yt(s:aa)(dt:List ak)(tx:List (List az))(g:Nat)(h : 0<dt.length)(hl:dt.length<=4294966000):aw Tryz.prog 66 [.v (.ptr (mc s dt tx g))] (dW (some (dt.getD (dt.length-1) ak.zero))):=by
 unfold mc;have hw:IntKind.i64.wrap ((dt.length:Int)-1)=((dt.length-1:Nat):Int):=by rw[wrap_small (by omega) (by omega)];omega
 refine aK Tryz.func66 Ic ?_;unfold A2 ah w5;simp only[go_sem];rw[hw];exact⟨⟨by omega,by omega⟩,rfl⟩
def BQ:List Nat:=[0,1,2,6,7,3,8,9,10]
def Kd:Sl:=ah Tryz.types Tryz.f65 BQ []
theorem TG:aC Tryz.prog Tryz.f65 BQ Kd 3=true:=by decide +kernel
theorem Yk{s:aa}(hs:s.ok=true){sz:List Int}{mp:List (List Int)}(hr:s.fV sz mp=true)(hb:s.brk sz mp s.lf.length=none) :
  aw Tryz.prog 65 [.v (aa.d s),.v (ints sz),.v (aF mp)] (match s.cO with | some x=>.al [Sf.d (x.ua sz mp),.int .i64 0] | none=>.al [Sf.d Sf.zero,.int .i64 3]):=by
 have h1:=JA s;rw[hs] at h1;have h2:=Jz s sz mp (fj hs).1;rw[hr] at h2;have h3:=Yc s hs
 have h4:=Jy s sz mp (xP hs hr) (fun x hx=>by
  have:=List.all_eq_true.1 (ow hr).2.1 x hx;simp at this
  omega)
 rw[hb] at h4;unfold oS at h4;refine aK Tryz.func65 TG ?_;unfold Kd ah BQ;simp only[go_sem];refine an h1 rfl (.inl rfl) ?_;simp only[go_sem];refine an h2 rfl (.inl rfl) ?_;simp only[go_sem];cases hp:s.cO with
 | none =>
  rw[Wt hp] at h3;refine an h3 rfl (.inr trivial) ?_;simp only[go_sem];exact⟨fun _=>rfl,fun h=>(by cases h)⟩
 | some x =>
  rw[Wu hp] at h3;have h5:=Ye hs hp hr;unfold bj.pD at h3 h5;refine an h3 rfl (.inr trivial) ?_;simp only[go_sem];refine⟨fun h=>(by cases h),fun _=>?_⟩;refine an h4 rfl (.inl rfl) ?_;simp only[go_sem];refine⟨fun h=>absurd h (by decide),fun _=>?_⟩;refine an h5 rfl (.inl (pG _)) ?_;simp only[go_sem]
def BR:List Nat:=[0,2,3,4,5]
def Ke:Sl:=ah Tryz.types Tryz.f19 BR []
theorem TH:aC Tryz.prog Tryz.f19 BR Ke 1=true:=by decide +kernel
theorem XF(t:List UInt8)(ht:t.length<=1048576):aw Tryz.prog 19 [.v (.str t)] (.al [Sf.d (ky (de t)).1,.int .i64 (ky (de t)).2]):=by
 refine aK Tryz.func19 TH ?_;unfold Ke ah BR;simp only[go_sem];refine uQ (XW t ht) rfl (.inl (Tn _)) ?_;cases hr:de t with
 | none =>
  simp only[nN,y9];simp only[go_sem];exact⟨fun _=>rfl,fun h=>absurd h (by decide)⟩
 | some p =>
  obtain⟨hok,hH⟩:=wG hr;have hdl:=hH.dl;have h6:=hH.t6;have hgl:=hH.gl;obtain⟨r1,r2⟩:=zf hr;have his:=Yk hok r1 r2;have hnow:=Yt p.1 p.2.dt p.2.tx p.2.gd (by omega) (by omega);have hnow:aw Tryz.prog 66 [.v (.ptr (mc p.1 p.2.dt p.2.tx p.2.gd))] (.agg [.vw (ints p.2.last.sz),.vw (aF p.2.last.mp)]):=hnow;simp only[nN];unfold mc at hnow|-
  simp only[go_sem];refine⟨fun h=>absurd h (by decide),fun _=>?_⟩;refine an hnow rfl (.inr trivial) ?_;simp only[go_sem];refine an hnow rfl (.inr trivial) ?_;simp only[go_sem];cases hp:p.1.cO with
  | none =>
   rw[hp] at his;rw[y8 hp];refine an his rfl (.inl (by simp only[D.a7,db,pG,Bool.and_true])) ?_;simp only[go_sem]
  | some x =>
   rw[hp] at his;rw[za hp];refine an his rfl (.inl (by simp only[D.a7,db,pG,Bool.and_true])) ?_;simp only[go_sem]
end Go.D3
