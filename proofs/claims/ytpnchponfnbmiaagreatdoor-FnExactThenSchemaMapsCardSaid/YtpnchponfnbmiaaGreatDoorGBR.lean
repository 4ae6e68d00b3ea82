/- CONTRACTS: the law FnExactThenSchemaMaps. -/
import Derived.Test.YtpnchponfnbmiaaGreatDoorGAS
import Derived.Test.YtpnchponfnbmiaaGreatDoorGBN
import Derived.Test.YtpnchponfnbmiaaGreatDoorGBP
import Derived.Test.YtpnchponfnbmiaaGreatDoorGBQ
namespace Go.D3
open Go
set_option maxHeartbeats 4000000
set_option maxRecDepth 100000
theorem Vu(m n:Smp)(hm:Smp.cost m<=1048576)(hn:Smp.cost n<=1048576):(m.lG n).1.bh<=40000000:=by
 have z:Smp.zero.bh<=40000000:=by decide
 unfold Smp.lG;by_cases h:m.okB=true/\n.okB=true
 rotate_left
 ·rw[if_neg h];exact z
 rw[if_pos h];split
 ·rename_i a b c d ha hb hc hd
  split
  ·rename_i hs
   simp only[Bool.and_eq_true] at hs;have hmo:=Smp.iU h.1;have hno:=Smp.iU h.2
   have e:m.av=n.src:=by
    refine Classical.byContradiction fun hne=>?_
    rw[<-lA hne] at hs;cases hs.2
   have h1:=u4 m;have h2:=u4 n
   have hel:m.aL.length<=8:=by
    have h1:=hmo.e;have h2:=(fg (eB hmo.s).1).f8;omega
   have key:∀l:List Pth,(∀p∈l,p.ed.length<=6)->(l.map Pth.aZ).sum<=l.length*7:=fun l=>by
    induction l with
    | nil=>intro _;simp
    | cons x l ih =>
     intro h;have:=ih fun p hp=>h p (List.mem_cons_of_mem _ hp)
     have:=h x List.mem_cons_self;simp only[List.map_cons,List.sum_cons,List.length_cons];unfold Pth.aZ at *;omega
   have hal:(n.fj b d m.aL).length=m.aL.length:=List.length_map _
   have:=key (n.fj b d m.aL) fun p hp=>by
    obtain⟨q,hq,rfl⟩:=List.mem_map.1 hp;obtain⟨i,hi,rfl⟩:=List.getElem_of_mem hq;obtain⟨_,hp⟩:=hmo.p i hi;obtain⟨_,_,k3,k4⟩:=Smp.vb hmo hno e hb hd hp;rw[aO hi] at k3 k4;obtain⟨y,hy⟩:=(rN hno.t hd).1 _ (cH (d:=Pth.zero) (show(n.lF b d m.aL[i]).toNat<d.ls.length by omega));exact yp hy
   have h3:bu Pth.aZ (n.fj b d m.aL) (n.fj b d m.aL).length<=56:=by
    unfold bu;rw[List.take_length];omega
   have h4:(fW m.aX n.aX).length=m.aX.length:=r9;unfold Smp.cost at hm hn;unfold Smp.bh at h1 h2;show m.src.bh+n.av.bh+(fW m.aX n.aX).length+bu Pth.aZ (n.fj b d m.aL) (n.fj b d m.aL).length<=_;have h5:Smp.cost m=m.src.cost+m.av.cost+m.aX.length+b7 Pth.cost m.aL:=rfl;have h6:Smp.cost n=n.src.cost+n.av.cost+n.aX.length+b7 Pth.cost n.aL:=rfl;omega
  ·exact z
 ·exact z
def AJ:List Nat:=[0,1,4,2,3,5,6,7,8,9,10,11,12,13,14,15,16]
def Ih:Sl:=ae Go.Proofs.Tryz.types Go.Proofs.Tryz.f4 AJ [(2,12)]
theorem Qb:aD Go.Proofs.Tryz.prog Go.Proofs.Tryz.f4 AJ Ih 2=true:=by decide +kernel
theorem Tr(m n:Smp):al Go.Proofs.Tryz.prog 4 [.v (Smp.d m),.v (Smp.d n)] (.bool true):=by
 refine aC Go.Proofs.Tryz.func4 Qb ?_;unfold Ih ae AJ;simp only[go_sem];refine af (GZ m _ (by decide) (by decide)) rfl (.inl rfl) ?_;simp only[go_sem];refine fun h0=>?_
 obtain⟨hs_m,hl0,hh0⟩:=Jf (left:=1048576) (n:=Smp.cost m) (by decide) (by decide) (by omega);refine af (GZ n _ hl0 hh0) rfl (.inl rfl) ?_;simp only[go_sem];refine fun h1=>?_
 obtain⟨hs_n,hl1,hh1⟩:=Jf (n:=Smp.cost n) hl0 hh0 (by omega);have hA1:=u4 m;have hA2:=u4 n;have hR:=Vu m n hs_m hs_n;have hsp:=TF m n hs_m hs_n;have him:=Tg m n hs_m hs_n;generalize m.lG n=R at hR hsp him;apply BG
 ·intro hc
  refine af (iY m hs_m) rfl (.inl (fw _)) ?_;simp only[go_sem];refine af (iY n hs_n) rfl (.inl (fw _)) ?_;simp only[go_sem];refine af (hsp) rfl (.inl (by simp only[D.ba,dH,fw,Bool.and_true])) ?_;simp only[go_sem];exact hc
 ·intro hc
  refine af (iY m hs_m) rfl (.inl (fw _)) ?_;simp only[go_sem];refine af (iY n hs_n) rfl (.inl (fw _)) ?_;simp only[go_sem];refine af (hsp) rfl (.inl (by simp only[D.ba,dH,fw,Bool.and_true])) ?_;simp only[go_sem];exact hc
 refine af (iY m hs_m) rfl (.inl (fw _)) ?_;simp only[go_sem];refine af (iY n hs_n) rfl (.inl (fw _)) ?_;simp only[go_sem];refine af (him) rfl (.inl (by simp only[D.ba,dH,fw,Bool.and_true])) ?_;simp only[go_sem];refine af (rS (R.1)) rfl (.inl rfl) ?_;simp only[go_sem];refine⟨fun hh=>by simp at hh,fun _=>?_⟩;refine af (iY m hs_m) rfl (.inl (fw _)) ?_;simp only[go_sem];refine af (rS m) rfl (.inl rfl) ?_;simp only[go_sem];refine af (iY n hs_n) rfl (.inl (fw _)) ?_;simp only[go_sem];refine af (rS n) rfl (.inl rfl) ?_;simp only[go_sem];refine ra (yS m 1 (by omega) (by omega)) trivial ?_;simp only[go_sem];refine⟨(m.marks 1).cells,rfl,qW ?_⟩;simp only[go_sem];refine ra (yS n (1+m.bh) (by omega) (by omega)) trivial ?_;simp only[go_sem];refine⟨(n.marks (1+m.bh)).cells,rfl,qW ?_⟩;simp only[go_sem];have hk:∀z:Int,0<=z->decide (z<0)=false:=fun z hz=>decide_eq_false (by omega)
 simp only[hk _ (show 0<=(1:Int)+m.bh+n.bh by omega),Bool.not_false];refine bt (fun _=>rS (R.1)) rfl (fun _=>rfl) (.inl rfl) ?_;simp only[go_sem];refine⟨fun hh=>by simp at hh,fun _=>?_⟩;refine ra (yS (R.1) 1 (by omega) (by omega)) trivial ?_;simp only[go_sem];refine⟨((R.1).marks 1).cells,rfl,qW ?_⟩;simp only[go_sem];refine af (GW (R.1) 1 (by omega) (by omega)) rfl (.inl rfl) ?_;simp only[go_sem];refine⟨fun hh=>by omega,fun _=>?_⟩;refine⟨fun hh=>by simp at hh,fun _=>?_⟩;apply BG
 ·intro hc
  refine af (iY m hs_m) rfl (.inl (fw _)) ?_;simp only[go_sem];refine af (iY n hs_n) rfl (.inl (fw _)) ?_;simp only[go_sem];refine af (him) rfl (.inl (by simp only[D.ba,dH,fw,Bool.and_true])) ?_;simp only[go_sem];exact hc
 ·intro hc
  refine af (iY m hs_m) rfl (.inl (fw _)) ?_;simp only[go_sem];refine af (iY n hs_n) rfl (.inl (fw _)) ?_;simp only[go_sem];refine af (him) rfl (.inl (by simp only[D.ba,dH,fw,Bool.and_true])) ?_;simp only[go_sem];exact hc
 refine af (rS (R.1)) rfl (.inl rfl) ?_;simp only[go_sem];refine⟨fun hh=>by simp at hh,fun _=>?_⟩;refine af (GW (R.1) 1 (by omega) (by omega)) rfl (.inl rfl) ?_;simp only[go_sem];refine⟨fun hh=>by omega,fun _=>?_⟩;simp
end Go.D3
