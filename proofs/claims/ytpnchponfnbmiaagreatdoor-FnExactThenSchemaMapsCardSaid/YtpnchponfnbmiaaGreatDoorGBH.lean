/- CONTRACTS: how the program composes least paths. -/
import Derived.Test.YtpnchponfnbmiaaGreatDoorGBG
namespace Go.D3
open Go
set_option maxHeartbeats 4000000
set_option maxRecDepth 100000
structure oO(s:Sch)(list:List Pth)(cl:List Int)(K:List Pth)(O B:List Int)(ls:List Pth):Prop where
 r:jM s list cl K
 eq:ls=O.map fun c=>K.getD c.toNat Pth.zero
 U:s.cB ls
 all:∀d:Nat,d<K.length->(d:Int)∈O
 ff:∀i,i<O.length->0<=O.getD i 0/\O.getD i 0<K.length
 b:∀x,x<O.length->B.getD (O.getD x 0).toNat 0=x
 bl:B.length=K.length
theorem oO.at{s:Sch}(hok:s.ok=true){list K ls:List Pth}{cl O B:List Int}(R:oO s list cl K O B ls){p:Pth}(hp:s.sp p) :
  ∃i c x:Nat,i<list.length/\list.getD i Pth.zero=p/\cl.getD i 0=c/\c<K.length/\B.getD c 0=x/\x<ls.length/\K.getD c Pth.zero=ls.getD x Pth.zero/\s.no ls p=x:=by
 obtain⟨y,hy⟩:=hp;obtain⟨i,hi,rfl⟩:=ew (d:=Pth.zero) (R.r.sh.a.a _ y hy);obtain⟨c,c1,c2,x,x1,x2,x3,x4⟩:=iD.no hok R.r.sh.a R.r.c R.r.k (O:=O) (by rw[<-R.eq];exact R.U) (B:=B) R.b R.all hi;rw[<-R.eq] at x4;have hl:ls.length=O.length:=by rw[R.eq,List.length_map]
 refine⟨i,c,x,hi,rfl,c1,c2,x1,by omega,?_,x4⟩;rw[R.eq,kZ (0:Int) x2,x3,Int.toNat_natCast]
theorem oO.gz{s:Sch}{list K ls:List Pth}{cl O B:List Int}(R:oO s list cl K O B ls){h:Nat}(hh:h<ls.length):(ls.getD h Pth.zero).ed.length<6:=by
 have hl:ls.length=O.length:=by rw[R.eq,List.length_map]
 have hr:=R.ff h (by omega);rw[R.eq,kZ (0:Int) (by omega)];exact R.r.gz _ (cH (by omega))
def Af:List Nat:=[0,1,2,3,4,7,8,10,25,26,27]
def HL:Sl:=ae Go.Proofs.Tryz.types Go.Proofs.Tryz.f145 Af []
theorem PF:aD Go.Proofs.Tryz.prog Go.Proofs.Tryz.f145 Af HL 5=true:=by decide +kernel
theorem TA{s:Sch}(h:s.ok=true){list K ls:List Pth}{cl O B:List Int}(R:oO s list cl K O B ls)(d0 d1 d2 d3 d4 d5 d6:D)(f g:Nat)(hf:f<ls.length)(hg:g<ls.length)(he:s.en (ls.getD f Pth.zero)=(ls.getD g Pth.zero).st) :
  al Go.Proofs.Tryz.prog 145 [.v (.int .i64 f),.v (.int .i64 g),.v (.ptr [.ptr [d0,d1,d2,d3,d4,d5,d6,U Pth.d Pth.zero ls]]),.v (.ptr [rJ list cl K]),.v (.ptr [ints B])] (.int .i64 ((ls.getD g Pth.zero).ed.foldl (s.jJ ls) f)):=by
 have hs:=fg (eB h).1;have hf8:=hs.f8;obtain⟨y,hy⟩:=R.U.sp _ (cH (d:=Pth.zero) hf);obtain⟨z,hz⟩:=R.U.sp _ (cH (d:=Pth.zero) hg);have hen:=pd hy;rw[he] at hen;generalize hG:ls.getD g Pth.zero=G at hz hen;have hG6:=(bx.1 hz).2.1;refine aC Go.Proofs.Tryz.func145 PF ?_;unfold HL ae Af;simp only[go_sem];rw[hG];refine⟨hf,hg,?_⟩;refine aJ [7] (fun(p:Nat×Nat)=>[(6,.box [.int .i64 (ls.getD p.2 Pth.zero).st,ints (ls.getD p.2 Pth.zero).ed]),(10,.int .i64 p.1)]) (fun p=>p.1<=G.ed.length/\p.2<ls.length/\(p.2:Int)=(G.ed.take p.1).foldl (s.jJ ls) (f:Int)/\∃u v,s.aB (ls.getD p.2 Pth.zero)=some u/\bn s.fr s.to u (G.ed.drop p.1)=some v) (fun p=>G.ed.length-p.1) (0,f) (by simp only[go_sem];rfl) ⟨Nat.zero_le _,hf,rfl,y,z,hy,by rw[<-hen];exact(bx.1 hz).2.2⟩ rfl ?_;rintro⟨k,m⟩ ⟨hk,hm,hfo,u,v,hu,hv⟩;simp only at hk hm hfo hu hv;simp only[go_sem];refine⟨fun h1=>?_,fun h1=>?_⟩
 ·have hd:=tc (fr:=s.fr) (to:=s.to) (x:=u) h1
  rw[hv] at hd;split at hd
  ·rename_i hc
   simp only[bq,Bool.and_eq_true,decide_eq_true_eq,beq_iff_eq] at hc;obtain⟨k0,hek⟩:∃k0:Nat,G.ed.getD k 0=k0:=⟨(G.ed.getD k 0).toNat,by omega⟩;rw[hek,Int.toNat_natCast] at hc hd;have H6:=R.gz hm;have hadd:=nD (p:=ls.getD m Pth.zero) (e:=k0) (by rw[hc.2];exact hu) (by omega) H6;obtain⟨i,c,x,i1,i2,c1,c2,x1,x2,x3,x4⟩:=R.at h ⟨_,hadd⟩;rw[<-hek] at i2 x4
   have hfo2:(x:Int)=(G.ed.take (k+1)).foldl (s.jJ ls) (f:Int):=by
    rw[bT h1 0,List.foldl_append,<-hfo];show _=s.jJ ls m (G.ed.getD k 0);unfold Sch.jJ;rw[Int.toNat_natCast,x4]
   have hnx:∃u v,s.aB (ls.getD x Pth.zero)=some u/\bn s.fr s.to u (G.ed.drop (k+1))=some v:=by
    refine⟨_,v,?_,hd.symm⟩;obtain⟨x',e1,e2,e3⟩:=R.U.EV ⟨_,hadd⟩;rw[<-hek,x4] at e1;obtain rfl:x'=x:=by omega
    rw[<-(lX h e3).2.1,hadd]
   have hwk:=aH h1 (show G.ed.length<=maxLen by simp only[maxLen];omega);refine⟨h1,?_⟩
   with_reducible (repeat' apply And.intro)
   all_goals(
    refine af (mL (ls.getD m Pth.zero).ed (by omega)) rfl (.inl (bJ _)) ?_;simp only[go_sem];refine⟨by omega,af (uG hs R.r i1 _ _ i2) rfl (.inl rfl) ?_⟩;simp only[go_sem,c1,x3]
    exact⟨by omega,(k+1,x),⟨h1,x2,hfo2,hnx⟩,by simp only;omega,by rw[hwk]⟩)
  ·cases hd
 ·obtain⟨i,c,x,i1,i2,c1,c2,x1,x2,x3,x4⟩:=R.at h ⟨_,hu⟩
  refine af (uG hs R.r i1 _ _ i2) rfl (.inl rfl) ?_;simp only[go_sem,c1,x1];have e:=R.U.tP hm (.refl ⟨_,hu⟩);have hbl:=R.bl;refine⟨by omega,?_⟩;rw[<-x4,e,hfo,List.take_of_length_le (by omega)]
end Go.D3
