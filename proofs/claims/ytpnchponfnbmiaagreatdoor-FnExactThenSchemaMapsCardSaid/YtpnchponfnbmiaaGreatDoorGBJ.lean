/- CONTRACTS: the category of a schema: the program's side. -/
import Derived.Test.YtpnchponfnbmiaaGreatDoorGBI
import Derived.Test.YtpnchponfnbmiaaGreatDoorGAL
namespace Go.D3
open Go
set_option maxHeartbeats 4000000
set_option maxRecDepth 100000
theorem Co{O:List Int}(hr:∀i,i<O.length->0<=O.getD i 0/\O.getD i 0<O.length)(hn:O.Nodup):∀n,n<=O.length ->
  ((List.range n).foldl (fun o x=>o.set (O.getD x 0).toNat (x:Int)) (List.replicate O.length 0)).length=O.length/\∀x,x<n->((List.range n).foldl (fun o x=>o.set (O.getD x 0).toNat (x:Int)) (List.replicate O.length 0)).getD (O.getD x 0).toNat 0=x
 | 0,_=>⟨by simp,fun x hx=>by omega⟩
 | n+1,h=>by
  obtain⟨h1,h2⟩:=Co hr hn n (by omega);have hrn:=hr n (by omega);rw[List.range_succ,List.foldl_append];simp only[List.foldl_cons,List.foldl_nil];refine⟨by rw[List.length_set,h1],fun x hx=>?_⟩;have hrx:=hr x (by omega);rw[jH (by omega)];by_cases hxn:x=n
  ·subst hxn;rw[if_pos rfl]
  ·rw[if_neg fun e=>hxn (EY hn (show x<O.length by omega) (show n<O.length by omega) (by omega))]
   exact h2 x (by omega)
theorem Pb{n:Nat}:(bw n).Nodup:=by
 unfold bw;rw[List.nodup_iff_pairwise_ne,List.pairwise_map];exact List.pairwise_lt_range.imp fun {a b} h e=>by omega
theorem jM.le{s:Sch}{list K:List Pth}{cl:List Int}(R:jM s list cl K):K.length<=400:=by
 have h1:=xz (Pb (n:=K.length)) (B:=cl) fun x hx=>by
  unfold bw at hx;obtain⟨c,hc,rfl⟩:=List.mem_map.1 hx;obtain⟨m,m1,m2,_⟩:=R.k.ex c (List.mem_range.1 hc);rw[<-m2];exact cH (by rw[R.c.len];exact m1)
 rw[dI,R.c.len] at h1;have:=R.sh.len;omega
theorem jM.sp{s:Sch}{list K:List Pth}{cl:List Int}(R:jM s list cl K):∀p∈K,s.sp p:=fun p hp=>by
 obtain⟨c,hc,rfl⟩:=ew (d:=Pth.zero) hp;obtain⟨m,m1,_,m3⟩:=R.k.ex c hc;rw[m3];exact R.sh.a.at' m1
theorem Rt{s:Sch}(h:s.ok=true){list K:List Pth}{cl O:List Int}(R:jM s list cl K)(hp:O.Perm (bw K.length))(hs:O.Pairwise fun a b=>¬s.lt (K.getD b.toNat Pth.zero) (K.getD a.toNat Pth.zero)) :
  O.length=K.length/\(∀i,i<O.length->0<=O.getD i 0/\O.getD i 0<O.length)/\oO s list cl K O ((List.range O.length).foldl (fun o x=>o.set (O.getD x 0).toNat (x:Int)) (List.replicate O.length 0)) (O.map fun c=>K.getD c.toNat Pth.zero):=by
 have hl:O.length=K.length:=by rw[hp.length_eq,dI]
 have hr:∀i,i<O.length->0<=O.getD i 0/\O.getD i 0<O.length:=fun i hi=>by
  have:=hp.mem_iff.1 (cH (d:=0) hi);unfold bw at this;obtain⟨d,hd,e⟩:=List.mem_map.1 this;have:=List.mem_range.1 hd;omega
 have hn:O.Nodup:=hp.nodup_iff.2 (by
  unfold bw;rw[List.nodup_iff_pairwise_ne,List.pairwise_map]
  exact List.pairwise_lt_range.imp fun {a b} h e=>by omega)
 obtain⟨b1,b2⟩:=Co hr hn O.length (Nat.le_refl _);exact⟨hl,hr,R,rfl,iD.U h R.sh.a R.c R.k hp hs,fun d hd=>hp.mem_iff.2 (List.mem_map.2 ⟨d,List.mem_range.2 hd,rfl⟩),fun i hi=>by have:=hr i hi;omega,b2,b1.trans hl⟩
theorem zg{s:Sch}:(D.vw (.ptr s.cells)).strip=.ptr s.cells:=by
 show D.ptr [_,(ints s.fr).strip,(ints s.to).strip,(U Pth.d Pth.zero s.lf).strip,(U Pth.d Pth.zero s.rt).strip]=_;rw[dh,dh,oK,oK];rfl
theorem OT{α β:Type}{f:α->D}{g:β->D}{l:List (α×β)}:(bC f g l).strip=bC f g l:=rfl
theorem RF{list K:List Pth}{cl:List Int}:(rJ list cl K).strip=rJ list cl K:=by
 show D.ptr [(kz list).strip,(ints cl).strip,(U Pth.d Pth.zero K).strip]=_;rw[OT,dh,oK]
theorem R0:eu Go.Proofs.Tryz.prog 145=true:=by
 simp only[eu,Go.Proofs.Tryz.func145];rfl
theorem Vq{s:Sch}{ls:List Pth}:eR (ls.map Pth.st) (ls.map s.en) (fun f g=>(ls.getD g Pth.zero).ed.foldl (s.jJ ls) (f:Int)) ls.length ls.length=(s.cE ls).c.co:=by
 show _=we s ls ls.length;unfold eR we;refine List.map_congr_left fun f hf=>?_
 have hf:=List.mem_range.1 hf;rw[if_pos hf];unfold fT lz;refine List.map_congr_left fun g hg=>?_
 have hg:=List.mem_range.1 hg;rw[if_pos hg,kZ Pth.zero hf,kZ Pth.zero hg];rfl
theorem FO{s:Sch}{x:au}:stripL [.ptr (pV (.vw (.ptr s.cells)) x (U dJ none (x.ls.map some)))]=[.ptr (pV (.ptr s.cells) x (U Pth.d Pth.zero x.ls))]:=by
 show[D.ptr [(D.vw (.ptr s.cells)).strip,_,(ints x.c.fr).strip,(ints x.c.to).strip,(ints x.c.aN).strip,(aW x.c.co).strip,(ints x.ed).strip,(U dJ none (x.ls.map some)).strip]]=_;rw[zg,ux,qn,dh,dh,dh,dh];rfl
def BQ(s:Sch)(l:List D):Prop:=(∃x,l=[.ptr (pV (.vw (.ptr s.cells)) x (U dJ none (x.ls.map some))),.bj]/\s.aU=some x)\/∃m,l=[.aP,.bp 181 (.agg [.str m])]/\s.aU=none
def Kh(s:Sch)(rc:D)(gs:List D):Prop:=gs=[]/\∃l,rc=.ah l/\BQ s l
def Ae:List Nat:=[0,2,3,4,5,6,7,8,10,11,12,14,15,16,43,44,45,101,102,126,127,128]
def HK:Sl:=ae Go.Proofs.Tryz.types Go.Proofs.Tryz.f115 Ae [(0,140),(0,141),(0,144),(4,2),(9,1)]
theorem PE:aD Go.Proofs.Tryz.prog Go.Proofs.Tryz.f115 Ae HK 1=true:=by decide +kernel
theorem Te(s:Sch)(h:s.ok=true):bY Go.Proofs.Tryz.prog 115 [.ptr s.cells] [] (Kh s):=by
 obtain⟨hk1,hlf,hrt⟩:=eB h;have hs:=fg hk1;have hto:=hs.to;have h0:=hs.n0;have h8:=hs.n8;have hf8:=hs.f8;refine oi .view Go.Proofs.Tryz.func115 PE ?_;unfold HK ae Ae;simp only[go_sem];refine nC [] false (Tx s h) ?_;rintro _ _ ⟨rfl,l,rfl,hq⟩;refine⟨(by repeat(first | exact trivial | refine⟨(fun h=>by cases h),?_⟩)),(fun h=>by cases h),?_⟩;rcases hq with⟨list,cl,K,rfl,R⟩ | ⟨m,rfl,hq⟩
 rotate_left
 ·simp only[go_sem]
  exact⟨_,_,⟨rfl,_,rfl,.inr ⟨_,rfl,mD hq⟩⟩,rfl,rfl,trivial⟩
 simp only[go_sem];refine nC [] false (Tb hs R.sp R.le _ _) ?_;rintro _ _ ⟨rfl,O,rfl,hp,hsr⟩;refine⟨(by repeat(first | exact trivial | refine⟨(fun h=>by cases h),?_⟩)),(fun h=>by cases h),?_⟩;obtain⟨hOl,hOr,Q⟩:=Rt h R hp hsr;have hKl:=R.le;simp only[go_sem];refine⟨fun h40=>?_,fun h40=>?_⟩
 ·exact⟨_,_,⟨rfl,_,rfl,.inr ⟨_,rfl,mD (.iV _ Q.U fun ha=>by have:=ha.2.1;rw[List.length_map] at this;omega)⟩⟩,rfl,rfl,trivial⟩
 refine af (Th O (by omega) (fun i hi=>hOr i hi)) rfl (.inl (bJ _)) ?_;generalize hB:(List.range O.length).foldl (fun o x=>o.set (O.getD x 0).toNat (x:Int)) (List.replicate O.length 0)=B at Q;simp only[go_sem];generalize hls:(O.map fun c=>K.getD c.toNat Pth.zero)=ls at Q;have hlsl:ls.length=O.length:=by rw[<-hls,List.length_map]
 refine aJ [8,9,10] (fun(i:Nat)=>[(7,.box [.o (.ptr [.vw (.ptr s.cells),.int .i64 s.nd,ints ((ls.take i).map Pth.st),ints ((ls.take i).map s.en),ints [],aW [],ints [],U dJ none ((ls.take i).map some)])]),(16,.int .i64 i)]) (fun i=>i<=O.length) (fun i=>O.length-i) 0 (by simp only[go_sem];rfl) (Nat.zero_le _) rfl ?_;intro i hi;simp only[go_sem];refine⟨fun h1=>?_,fun h1=>?_⟩
 ·have hki:K.getD (O.getD i 0).toNat Pth.zero=ls.getD i Pth.zero:=by rw[<-hls,kZ (0:Int) h1]
  obtain⟨y,hy⟩:=Q.U.sp _ (cH (d:=Pth.zero) (show i<ls.length by omega));have hend:=mJ s (ls.getD i Pth.zero) hto h0;rw[hy] at hend;simp only[ic] at hend;have hr:=hOr i h1;simp only[hki];refine⟨h1,by omega,af hend rfl (.inl rfl) ?_⟩;simp only[go_sem];have htl:(ls.take i).length=i:=by rw[List.length_take];omega
  simp only[List.length_map,htl];refine⟨rfl,by omega,by omega,by omega,i+1,h1,by omega,?_⟩;rw[bT (show i<ls.length by omega) Pth.zero,aH h1 (by simp only[maxLen];omega)];simp only[List.map_append,List.map_cons,List.map_nil,pd hy]
  try rfl
 obtain rfl:i=O.length:=by omega
 rw[List.take_of_length_le (show ls.length<=O.length by omega)];refine aJ [11] (fun(x:Nat)=>[(7,.box [.o (.ptr [.vw (.ptr s.cells),.int .i64 s.nd,ints (ls.map Pth.st),ints (ls.map s.en),ints (nH s ls x),aW [],ints [],U dJ none (ls.map some)])]),(18,.int .i64 x)]) (fun x=>(x:Int)<=s.nd) (fun x=>s.nd.toNat-x) 0 (by simp only[go_sem];rfl) h0 rfl ?_;intro x hx;have hidl:(nH s ls x).length=x:=om;simp only[go_sem];refine⟨fun h2=>?_,fun h2=>?_⟩
 ·obtain⟨a,c,z,a1,a2,c1,c2,z1,z2,z3,z4⟩:=Q.at h ⟨_,pe (s:=s) (x:=x) (by omega) h2⟩
  have hbl:=Q.bl;have hwx:=aH (n:=9) (i:=x) (by omega) (by decide);have hids:nH s ls (x+1)=nH s ls x++[(z:Int)]:=by rw[<-z4];exact oo
  with_reducible (repeat' apply And.intro)
  all_goals(
   refine af (uG hs R a1 _ _ a2) rfl (.inl rfl) ?_;simp only[go_sem,c1,z1,hidl]
   exact⟨by omega,by omega,x+1,by omega,by omega,by rw[hids,hwx]⟩)
 obtain rfl:x=s.nd.toNat:=by omega
 refine aJ [12,13] (fun(k:Nat)=>[(7,.box [.o (.ptr [.vw (.ptr s.cells),.int .i64 s.nd,ints (ls.map Pth.st),ints (ls.map s.en),ints (nH s ls s.nd.toNat),aW [],ints (pb s ls k),U dJ none (ls.map some)])]),(21,.int .i64 k)]) (fun k=>k<=s.fr.length) (fun k=>s.fr.length-k) 0 (by simp only[go_sem];rfl) (Nat.zero_le _) rfl ?_;intro k hk;have hedl:(pb s ls k).length=k:=om;simp only[go_sem];refine⟨fun h3=>?_,fun h3=>?_⟩
 ·have hfr:=fP hs.fr h3
  have hsp:=nD (p:=⟨s.fr.getD k 0,[]⟩) (pe hfr.1 hfr.2) h3 (show(0:Nat)<6 by decide);rw[List.nil_append] at hsp;obtain⟨a,c,z,a1,a2,c1,c2,z1,z2,z3,z4⟩:=Q.at h ⟨_,hsp⟩;have hbl:=Q.bl;have hwk:=aH h3 (show s.fr.length<=maxLen by simp only[maxLen];omega);have heds:pb s ls (k+1)=pb s ls k++[(z:Int)]:=by rw[<-z4];exact oo
  refine⟨h3,?_⟩
  with_reducible (repeat' apply And.intro)
  all_goals(
   refine af (uG hs R a1 _ _ a2) rfl (.inl rfl) ?_;simp only[go_sem,c1,z1,hedl]
   exact⟨by omega,by omega,k+1,h3,by omega,by rw[heds,hwk]⟩)
 obtain rfl:k=s.fr.length:=by omega
 have hfl:(ls.map Pth.st).length=ls.length:=List.length_map _;have htl:(ls.map s.en).length=ls.length:=List.length_map _
 have htab:=S8 (.vw (.ptr s.cells)) (.ptr s.cells) (U dJ none (ls.map some)) (U Pth.d Pth.zero ls) zg ux s.nd (ls.map Pth.st) (ls.map s.en) (nH s ls s.nd.toNat) (pb s ls s.fr.length) B (rJ list cl K) RF ⟨_,rfl⟩ 145 (fun f g=>(ls.getD g Pth.zero).ed.foldl (s.jJ ls) f) (by omega) (by omega) R0
  (fun co f g hf hg he=>TA h Q _ _ _ _ _ _ _ f g (by omega) (by omega) (by
    rw[kZ Pth.zero (show f<ls.length by omega),kZ Pth.zero (show g<ls.length by omega)] at he
    exact he))
 refine DG [7,3,6] false htab ?_;simp only[go_sem];rw[hfl,Vq];refine CB (S1 h Q.U (by omega)) (xs:=[_]) rfl (FO (s:=s) (x:=s.cE ls)) (.inl rfl) ?_;simp only[go_sem];refine⟨fun hg=>?_,fun hg=>?_⟩
 ·exact⟨_,_,⟨rfl,_,rfl,.inr ⟨_,rfl,ti Q.U (by simpa using hg)⟩⟩,rfl,rfl,trivial⟩
 ·refine⟨_,_,⟨rfl,_,rfl,.inl ⟨s.cE ls,rfl,mD (.yes ls ⟨list,R.sh.nd,R.sh.a,R.sh.len⟩ Q.U ⟨fun p hp=>?_,by omega,by simpa using hg⟩)⟩⟩,rfl,rfl,trivial⟩
  obtain⟨j,hj,rfl⟩:=ew (d:=Pth.zero) hp;exact Q.gz hj
def au.pD(s:Sch)(x:au):D:=.ptr (pV (.ptr s.cells) x (U Pth.d Pth.zero x.ls))
def Ki(s:Sch)(l:List D):Prop:=(∃x,l=[x.pD s,.bj]/\s.aU=some x)\/∃m,l=[.aP,.bp 181 (.agg [.str m])]/\s.aU=none
theorem TB(s:Sch)(h:s.ok=true):bY Go.Proofs.Tryz.prog 115 [.ptr s.cells] [] fun rc gs=>gs=[]/\∃l,rc=.ah l/\Ki s l:=by
 refine(bY.clean (Q:=BQ s) (Te s h) fun l hl=>?_).imp fun r g ⟨hg,l,hr,hl⟩=>⟨hg,_,hr,?_⟩
 ·rcases hl with⟨_,rfl,_⟩ | ⟨_,rfl,_⟩<;>exact⟨trivial,trivial,trivial⟩
 ·rcases hl with⟨x,rfl,hh⟩ | ⟨m,rfl,hh⟩
  ·refine .inl ⟨x,?_,hh⟩
   have:=FO (s:=s) (x:=x);injection this with this
   show[D.strip _,_]=_;rw[this];rfl
  ·exact .inr ⟨m,rfl,hh⟩
end Go.D3
