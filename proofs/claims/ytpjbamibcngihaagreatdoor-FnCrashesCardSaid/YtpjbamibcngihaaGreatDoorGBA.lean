/- CONTRACTS: changes are committed, the reference's side. -/
import Derived.Test.YtpjbamibcngihaaGreatDoorGAY
namespace Go.D3
open Go
set_option maxHeartbeats 4000000
set_option maxRecDepth 100000
theorem Ub(s:aa)(d:af)(l:List ah)(h:s.ok=true)(hd:br s d)(hl:l.length<=4294966000):fV Go.Proofs.Tryz.prog 41 [aa.d s,af.d d,ae ah.d ah.zero l] [] (jT s l (af.all s d l)) []:=by
 have hs:=eA (dM h).1;refine mN .tree Go.Proofs.Tryz.func41 Gd ?_;unfold zE ak vC;simp only[go_sem];refine aE [8,9] (fun(p:Nat×af)=>[(6,.box [ints p.2.sz,aI p.2.mp]),(7,.int .i64 p.1)]) (fun p=>p.1<=l.length/\af.all s p.2 (l.drop p.1)=af.all s d l/\br s p.2) (fun p=>l.length-p.1) (0,d) (by simp only[go_sem];rfl) ⟨Nat.zero_le _,rfl,hd⟩ rfl ?_;rintro⟨i,e⟩ ⟨hi,ha,he⟩;simp only at hi ha he;simp only[go_sem];have hV:=aC.view (xs:=[aa.d s,af.d e,ah.d (l.getD i ah.zero)]) (by decide +kernel) (fun x hx=>by simp at hx;rcases hx with rfl | rfl | rfl<;>simp only[aa.d,aa.cells,af.d,af.cells,ah.d,ah.cells,D.refs,bK,xW,and_self]) (by split<;>rfl) (H2 s e (l.getD i ah.zero) hs he);refine⟨fun h2=>?_,fun h2=>?_⟩
 ·rw[we h2] at ha
  have hstep:=fun hc=>he.app (c:=l.getD i ah.zero) hs hc
  with_reducible (repeat' apply And.intro)
  all_goals(try exact h2)
  all_goals(
   refine en [] false hV ?_;cases hc:e.can s (l.getD i ah.zero) with
   | false =>
    rw[hc,if_neg (by simp)] at ha;rw[<-ha,if_neg (by simp)];simp only[jT,dD];simp only[go_sem]
    all_goals rfl
   | true =>
    rw[hc,if_pos rfl] at ha;rw[if_pos rfl];have:=hstep hc;generalize e.app s (l.getD i ah.zero)=e' at ha this;simp only[go_sem]
    exact⟨(i+1,e'),⟨h2,ha,this⟩,by show l.length-(i+1)<l.length-i;omega,by rw[wrap_small (by omega) (by omega)];rfl⟩)
 rw[show i=l.length by omega,List.drop_length] at ha;rw[<-ha];have h40:decide ((l.length:Int)<=40)=decide (l.length<=40):=decide_eq_decide.2 (by omega);refine⟨bt (fun _=>u9 s e h he) rfl (fun h=>h) (.inl rfl) ?_,bt (fun _=>u9 s e h he) rfl (fun h=>h) (.inl rfl) ?_⟩
 all_goals(
  simp only[go_sem,jT,dD,af.all]
  rw[h40])
theorem KO{s:aa}{d:af}(hd:br s d)(i:Nat):d.sz.getD i 0<=16:=by
 by_cases h:i<d.sz.length
 ·exact(hd.eH i h).2
 ·rw[List.getD_eq_getElem?_getD,List.getElem?_eq_none (by omega)];show(0:Int)<=16;omega
theorem Dp{s:aa}{d:af}{c:ah}(hs:cQ s)(hd:br s d)(h:d.can s c=true):lJ c:=by
 have h1:=hs.n8;have h2:=hs.f8;unfold af.can at h;rw[Bool.and_eq_true] at h;by_cases hk:c.kd=1
 ·rw[if_pos hk] at h
  simp only[Bool.and_eq_true,aP,decide_eq_true_eq] at h;exact⟨by omega,fun hn=>absurd hk hn⟩
 ·rw[if_neg hk] at h
  simp only[Bool.and_eq_true,aP,decide_eq_true_eq] at h;have z1:=KO hd (s.fr.getD c.fi.toNat 0).toNat;have z2:=KO hd (s.to.getD c.fi.toNat 0).toNat;exact⟨by omega,fun _=>by omega⟩
theorem CM{s:aa}(hs:cQ s):∀{l:List ah}{d e:af},br s d->af.all s d l=some e->∀c∈l,lJ c
 | [],_,_,_,_,c,hc=>by cases hc
 | x::l,d,e,h,ha,c,hc=>by
  rw[af.all] at ha;split at ha
  ·rename_i hcan
   rcases List.mem_cons.1 hc with rfl | hc
   ·exact Dp hs h hcan
   ·exact CM hs (h.app hs hcan) ha c hc
  ·cases ha
def fL(t:List UInt8)(l:List ah):Option (aa×Hs)->D
 | some p=>if 40<l.length then .au [.str [],.int .i64 2] else match ca p.1 p.2.last l with
  | none=>.au [.str [],.int .i64 5]
  | some _=>if 6000<(dE (t.take p.2.gd) l).length then .au [.str [],.int .i64 3] else .au [.str (dE (t.take p.2.gd) l),.int .i64 0]
 | none=>.au [.str [],.int .i64 6]
def Bd:List Nat:=[0,1,4,5,6,7,9,10]
def Jc:Sl:=ak Go.Proofs.Tryz.types Go.Proofs.Tryz.f14 Bd [(0,28),(0,32),(0,41)]
theorem Rk:aF Go.Proofs.Tryz.prog Go.Proofs.Tryz.f14 Bd Jc 2=true:=by decide +kernel
theorem HQ(t:List UInt8)(l:List ah)(ht:t.length<=1048576):aC Go.Proofs.Tryz.prog 14 [.v (.str t),.v (ae ah.d ah.zero l)] (fL t l (bn t)):=by
 refine aQ Go.Proofs.Tryz.func14 Rk ?_;unfold Jc ak Bd;simp only[go_sem];refine en [] false (u4 t (by omega)) ?_;cases hr:bn t with
 | none =>
  simp only[lv];simp only[go_sem];rfl
 | some p =>
  obtain⟨hok,hH⟩:=gJ hr;have hs:=eA (dM hok).1;have hdl:=hH.dl;have h6:=hH.t6;have hgl:=hH.gl;simp only[lv,Hs.pl];simp only[go_sem];refine⟨fun h40=>?_,fun h40=>?_⟩
  ·simp only[fL]
   rw[if_pos (by omega)]
  ·have hlast:=u7 (bX.of p.1 p.2) (by show 0<p.2.dt.length;omega) (by show p.2.dt.length<=_;omega)
   rw[tO] at hlast;have hall:=Ub p.1 p.2.last l hok hH.last (by omega);have hcok:=fun e he=>CM hs (l:=l) (e:=e) hH.last he
   with_reducible (repeat' apply And.intro)
   all_goals(
    refine en [] false hlast ?_;simp only[go_sem];refine en [] false hall ?_;cases hd:af.all p.1 p.2.last l with
    | none =>
     simp only[jT,dD];simp only[go_sem];simp only[fL,ca,hd];rw[if_neg (by omega)];rfl
    | some e =>
     simp only[jT];cases hgb:(decide (l.length<=40)&&e.dP p.1) with
     | false =>
      simp only[go_sem,dD];simp only[fL,ca,hd,Option.bind_some,hgb];rw[if_neg (by omega)];rfl
     | true =>
      have hgo:ca p.1 p.2.last l=some e:=by unfold ca;rw[hd,Option.bind_some,hgb];rfl
      simp only[go_sem,dD];refine⟨⟨Nat.zero_le _,hgl⟩,av (H7 (t.take p.2.gd) l (by rw[List.length_take];omega) (by omega) (hcok e hd)) rfl (.inl rfl) ?_⟩;simp only[go_sem];refine⟨fun h6k=>?_,fun h6k=>?_⟩
      ·simp only[fL,hgo]
       rw[if_neg (by omega),if_pos (by omega)]
      ·simp only[fL,hgo]
       rw[if_neg (by omega),if_neg (by omega)])
end Go.D3
