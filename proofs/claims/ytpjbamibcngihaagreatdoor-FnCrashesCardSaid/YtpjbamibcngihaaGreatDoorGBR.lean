/- CONTRACTS: a journal is made short, the program's side. -/
import Derived.Test.YtpjbamibcngihaaGreatDoorGAW
import Derived.Test.YtpjbamibcngihaaGreatDoorGBQ
import Derived.Test.YtpjbamibcngihaaGreatDoorGAU
import Derived.Test.YtpjbamibcngihaaGreatDoorGBB
namespace Go.D3
open Go
set_option maxHeartbeats 4000000
set_option maxRecDepth 100000
def Aq:List Nat:=[0,2,3,4,5,6,7,8,9,10,11,12,13,26,27,28,33,34,44,45,46,51,52,53]
def Ip:Sl:=ak Go.Proofs.Tryz.types Go.Proofs.Tryz.f22 Aq [(3,11),(3,51),(4,4),(6,35),(7,77)]
theorem Qw:aF Go.Proofs.Tryz.prog Go.Proofs.Tryz.f22 Aq Ip 1=true:=by decide +kernel
theorem Ui(t:List UInt8)(ht:t.length<=1048576):aC Go.Proofs.Tryz.prog 22 [.v (.str t)] (jk (bn t)):=by
 refine aQ Go.Proofs.Tryz.func22 Qw ?_;unfold Ip ak Aq;simp only[go_sem];refine av (uY t ht) rfl (.inl (uv _)) ?_;cases hr:bn t with
 | none =>
  simp only[gW];simp only[go_sem];exact⟨fun _=>rfl,fun h=>absurd h (by decide)⟩
 | some p =>
  obtain⟨hok,hH⟩:=gJ hr;have hs:=eA (dM hok).1;have hdl:=hH.dl;have h6:=hH.t6;have hgl:=hH.gl;have htk:=cJ hok;have htl:=sd htk;have hd:=hH.last;have hnd:=hd.nd;have hn8:=hs.n8;have hf8:=hs.f8;have hmp:=hd.mp;have hsm:=KA hs hd;have hck:=zY hs hd hH.tN;have hnow:=HP p.1 p.2.dt p.2.tx p.2.gd (by omega) (by omega);have hkr:bK (fb 1) [D.aw 0 [(0,0)]]/\bK (fb 1) [.o (.ptr (fy p.1 p.2.dt p.2.tx p.2.gd))]/\(D.agg [.sub 0 [(0,5),(p.2.dt.length-1,0)],.sub 0 [(0,5),(p.2.dt.length-1,1)]]).refs (fb 1):=⟨⟨Nat.zero_lt_one,trivial⟩,⟨trivial,trivial⟩,Nat.zero_lt_one,Nat.zero_lt_one,trivial⟩;simp only[gW];unfold fy at hnow hkr|-
  simp only[go_sem];refine⟨fun h=>absurd h (by decide),fun _=>?_⟩;refine E2 [3] hnow (by decide) ⟨⟨by decide,rfl⟩,trivial⟩ ⟨rfl,trivial⟩ hkr rfl ?_;simp only[go_sem,show sj [3] 0=3 from rfl];have hlast:p.2.dt.getD (p.2.dt.length-1) af.zero=p.2.last:=rfl;rw[hlast];refine aE [7,8,16,17] (fun(x:Nat)=>[(5,.o (ae ah.d ah.zero (fJ p.2.last x))),(15,.int .i64 x)]) (fun x=>x<=p.2.last.sz.length) (fun x=>p.2.last.sz.length-x) 0 (by simp only[go_sem];rfl) (Nat.zero_le _) rfl ?_;intro x hx;simp only[go_sem];refine⟨fun h=>?_,fun h=>?_⟩
  ·rw[hlast]
   have hz:=hd.eH x h;have hal:=oT hd hx;refine⟨h,?_⟩;refine aE [] (fun(r:Nat)=>[(5,.o (ae ah.d ah.zero (fJ p.2.last x++List.replicate r ⟨1,x,0,0⟩))),(17,.int .i64 r)]) (fun r=>(r:Int)<=p.2.last.sz.getD x 0) (fun r=>(p.2.last.sz.getD x 0).toNat-r) 0 (by simp only[go_sem];rfl) hz.1 (by rw[List.replicate_zero,List.append_nil];rfl) ?_;intro r hr;simp only[go_sem];refine⟨fun h2=>?_,fun h2=>?_⟩
   ·refine⟨by rw[List.length_append,List.length_replicate];omega,r+1,by omega,by omega,?_⟩
    rw[wrap_small (by omega) (by omega),List.append_assoc,<-List.replicate_succ'];rfl
   ·refine⟨x+1,h,by omega,?_⟩
    rw[wrap_small (by omega) (by omega),sG,show r=(p.2.last.sz.getD x 0).toNat by omega];rfl
  ·have hxe:x=p.2.last.sz.length:=by omega
   subst hxe;have hal:=oT hd hx;rw[hlast];refine aE [9,10,11,12,21,22,23] (fun(k:Nat)=>[(5,.o (ae ah.d ah.zero (fJ p.2.last p.2.last.sz.length++gM p.2.last k))),(20,.int .i64 k)]) (fun k=>k<=p.2.last.mp.length) (fun k=>p.2.last.mp.length-k) 0 (by simp only[go_sem];rfl) (Nat.zero_le _) (by rw[show gM p.2.last 0=[] from rfl,List.append_nil];rfl) ?_;intro k hk;simp only[go_sem];refine⟨fun h=>?_,fun h=>?_⟩
   ·rw[hlast]
    have hml:=hd.mA hs k;have hsl:=vf hs hd hk;refine⟨h,?_⟩;refine aE [11,12] (fun(r:Nat)=>[(5,.o (ae ah.d ah.zero (fJ p.2.last p.2.last.sz.length++gM p.2.last k++fm p.2.last k r))),(23,.int .i64 r)]) (fun r=>r<=(p.2.last.mp.getD k []).length) (fun r=>(p.2.last.mp.getD k []).length-r) 0 (by simp only[go_sem];rfl) (Nat.zero_le _) (by rw[show fm p.2.last k 0=[] from rfl,List.append_nil];rfl) ?_;intro r hr;have hrl:(fm p.2.last k r).length=r:=by simp only[fm,List.length_map,List.length_range]
    simp only[go_sem];rw[hlast];refine⟨fun h2=>⟨h2,?_,r+1,h2,by omega,?_⟩,fun h2=>⟨k+1,h,by omega,?_⟩⟩
    ·rw[List.length_append,List.length_append,hrl];omega
    ·rw[wrap_small (by omega) (by omega),zT,List.append_assoc _ (fm p.2.last k r)];rfl
    ·rw[wrap_small (by omega) (by omega),vg,show r=(p.2.last.mp.getD k []).length by omega,List.append_assoc];rfl
   ·rw[show k=p.2.last.mp.length by omega,show fJ p.2.last p.2.last.sz.length++gM p.2.last p.2.last.mp.length=db p.2.last from rfl]
    have hnl:(cA p.1).length<=4000:=by simp only[cA,List.length_append,List.length_cons,List.length_nil];omega
    refine⟨fun h0=>?_,fun h0=>⟨fun h40=>?_,fun h40=>?_⟩⟩
    ·refine qE (bs:=[.ptr p.1.cells]) (HH p.1 htk) rfl ⟨.inr ⟨5,_,rfl,rfl⟩,trivial⟩ (.inl rfl) ?_
     simp only[go_sem];simp only[jk];rw[if_neg (by omega),if_pos (by omega)]
    ·simp only[jk]
     rw[if_pos (by omega)]
    ·refine qE (bs:=[.ptr p.1.cells]) (HH p.1 htk) rfl ⟨.inr ⟨5,_,rfl,rfl⟩,trivial⟩ (.inl rfl) ?_
     simp only[go_sem];refine av (HK (cA p.1) (db p.2.last) (by omega) (by omega)) rfl (.inl rfl) ?_;simp only[go_sem];simp only[jk];rw[if_neg (by omega),if_neg (by intro hz;rw[hz] at h0;revert h0;decide)]
end Go.D3
