/- CONTRACTS: the category of a schema with a code: the program's side, walked. -/
import Derived.Test.YtpnchponfnbmiaaGreatDoorGAL
import Derived.Test.YtpnchponfnbmiaaGreatDoorGAF
import Derived.Test.YtpnchponfnbmiaaGreatDoorChecked
import Derived.WalkKit
import Derived.LaidEql
import Derived.Stop.Asserts
import Derived.RowKitTokens
namespace Go.D3
open Go
set_option maxHeartbeats 4000000
set_option maxRecDepth 100000
def fF(fr to:List Int)(cf:Nat->Nat->Int)(f n N:Nat):List Int:=(List.range N).map fun g=>if g<n then(if to.getD f 0=fr.getD g 0 then cf f g else -1) else 0
def eK(fr to:List Int)(cf:Nat->Nat->Int)(f N:Nat):List (List Int):=(List.range N).map fun i=>if i<f then fF fr to cf i N N else[]
theorem Fq{fr to:List Int}{cf:Nat->Nat->Int}{f n N:Nat}:(fF fr to cf f n N).length=N:=by simp[fF]
theorem yv{fr to:List Int}{cf:Nat->Nat->Int}{f N:Nat}:(eK fr to cf f N).length=N:=by simp[eK]
theorem R2{fr to:List Int}{cf:Nat->Nat->Int}{f N:Nat}:fF fr to cf f 0 N=List.replicate N 0:=by
 refine List.ext_getElem (by simp[fF]) fun i h1 h2=>?_
 simp[fF]
theorem Ts{fr to:List Int}{cf:Nat->Nat->Int}{N:Nat}:eK fr to cf 0 N=List.replicate N []:=by
 refine List.ext_getElem (by simp[eK]) fun i h1 h2=>?_
 simp[eK]
theorem Ft{fr to:List Int}{cf:Nat->Nat->Int}{f n N:Nat}{v:Int}(hv:v=if to.getD f 0=fr.getD n 0 then cf f n else -1):(fF fr to cf f n N).set n v=fF fr to cf f (n+1) N:=by
 refine List.ext_getElem (by simp[fF]) fun i h1 h2=>?_
 rw[List.getElem_set];simp only[fF,List.getElem_map,List.getElem_range];by_cases h:n=i
 ·subst h;rw[if_pos rfl,if_pos (by omega),hv]
 ·rw[if_neg h]
  by_cases h3:i<n
  ·rw[if_pos h3,if_pos (show i<n+1 by omega)]
  ·rw[if_neg h3,if_neg (show ¬i<n+1 by omega)]
theorem Tr{fr to:List Int}{cf:Nat->Nat->Int}{f N:Nat}:(eK fr to cf f N).set f (fF fr to cf f N N)=eK fr to cf (f+1) N:=by
 refine List.ext_getElem (by simp[eK]) fun i h1 h2=>?_
 rw[List.getElem_set];simp only[eK,List.getElem_map,List.getElem_range];by_cases h:f=i
 ·subst h;rw[if_pos rfl,if_pos (by omega)]
 ·rw[if_neg h]
  by_cases h3:i<f
  ·rw[if_pos h3,if_pos (by omega)]
  ·rw[if_neg h3,if_neg (by omega)]
theorem SC{α:Type}{l:List α}{i:Nat}{x d:α}(h:i<l.length):(l.set i x).getD i d=x:=by rw[List.getD_eq_getElem?_getD,List.getElem?_set_self h];rfl
abbrev HR(S:D)(ob:Int)(fr to aL:List Int)(co:List (List Int))(ed:List Int)(Y:D)(k:List D)(B:List Int):List D :=
 [.box [.o (.ptr [S,.int .i64 ob,ints fr,ints to,ints aL,aO co,ints ed,Y])],.box k,.box [.o (ints B)]]
def yL:List Nat:=[0,1,4,5,6,18,19,37,38]
def FF:Sl:=ae Go.Proofs.Tryz.types Go.Proofs.Tryz.f144 yL []
theorem Nn:aD Go.Proofs.Tryz.prog Go.Proofs.Tryz.f144 yL FF 2=true:=by decide +kernel
theorem QS(S Sd Y Yd:D)(hS:S.strip=Sd)(hY:Y.strip=Yd)(ob:Int)(fr to aL:List Int)(ed B:List Int)(k:D)(hk:k.strip=k)(hkp:∃l,k=.ptr l)(fn:FuncId)(cf:Nat->Nat->Int)(hn:fr.length<=1048576)(hto:to.length=fr.length)(hb:dY Go.Proofs.Tryz.prog fn=true)
  (hc:∀co (f g:Nat),f<fr.length->g<fr.length->to.getD f 0=fr.getD g 0->al Go.Proofs.Tryz.prog fn [.v (.int .i64 f),.v (.int .i64 g),.v (.ptr [.ptr [Sd,.int .i64 ob,ints fr,ints to,ints aL,aO co,ints ed,Yd]]),.v (.ptr [k]),.v (.ptr [ints B])] (.int .i64 (cf f g))) :
  iM Go.Proofs.Tryz.prog 144 [.ay 0 [(0,0),(0,1)],.fn fn [.ay 0 [(0,0)],.ay 1 [(0,0)],.ay 2 [(0,0)]]] (HR S ob fr to aL [] ed Y [k] B) (.o (.af [])) (HR S ob fr to aL (eK fr to cf fr.length fr.length) ed Y [k] B):=by
 obtain⟨kl,rfl⟩:=hkp;refine EB .tree Go.Proofs.Tryz.func144 Nn ?_;unfold FF ae yL;simp only[go_sem];refine gJ (bs:=[_]) (xA ⟨ob,fr,to,aL,[]⟩) rfl ⟨.inr ⟨5,_,rfl,rfl⟩,trivial⟩ (.inl rfl) ?_;simp only[go_sem];refine⟨by omega,?_⟩;refine aI [3,4,7,8] (fun(f:Nat)=>[(6,.int .i64 f),(9,.box [.o (.ptr [S,.int .i64 ob,ints fr,ints to,ints aL,aO (eK fr to cf f fr.length),ints ed,Y])])]) (fun f=>f<=fr.length) (fun f=>fr.length-f) 0 (by simp only[go_sem];rfl) (Nat.zero_le _) ?_ ?_
 ·simp only[go_sem,Ts];rfl
 intro f hf;simp only[go_sem,yv,List.length_replicate];refine⟨fun h1=>?_,fun h1=>?_⟩
 ·have htl:∀r,((eK fr to cf f fr.length).set f r).length=fr.length:=fun r=>by rw[List.length_set,yv]
  have hgr:∀r,((eK fr to cf f fr.length).set f r).getD f []=r:=fun r=>SC (by rw[yv];exact h1)
  simp only[htl,hgr,List.length_replicate];refine⟨⟨Nat.le_refl _,by omega⟩,h1,h1,h1,?_⟩;refine aI [4] (fun(g:Nat)=>[(8,.int .i64 g),(9,.box [.o (.ptr [S,.int .i64 ob,ints fr,ints to,ints aL,aO ((eK fr to cf f fr.length).set f (fF fr to cf f g fr.length)),ints ed,Y])])]) (fun g=>g<=fr.length) (fun g=>fr.length-g) 0 (by simp only[go_sem];rfl) (Nat.zero_le _) ?_ ?_
  ·simp only[go_sem,R2];rfl
  intro g hg;simp only[go_sem,htl,hgr,List.set_set,Fq,List.length_replicate];refine⟨fun h2=>?_,fun h2=>?_⟩
  ·have hkl:stripL kl=kl:=by injection hk
   have hwg:=aH h2 (show fr.length<=maxLen by simp only[maxLen];omega);refine⟨h1,h2,⟨h1,h2⟩,by omega,h2,fun he=>?_,fun he=>?_⟩
   ·have hcall:=hc ((eK fr to cf f fr.length).set f ((fF fr to cf f g fr.length).set g (-1))) f g h1 h2 he
    have aG:stripL [.int .i64 f,.int .i64 g,.ptr [.ptr [S,.int .i64 ob,ints fr,ints to,ints aL,aO ((eK fr to cf f fr.length).set f ((fF fr to cf f g fr.length).set g (-1))),ints ed,Y]],.ptr [.ptr kl],.ptr [ints B]] =
      [.int .i64 f,.int .i64 g,.ptr [.ptr [Sd,.int .i64 ob,ints fr,ints to,ints aL,aO ((eK fr to cf f fr.length).set f ((fF fr to cf f g fr.length).set g (-1))),ints ed,Yd]],.ptr [.ptr kl],.ptr [ints B]]:=by
     simp only[stripL,D.strip,dj,pO,hS,hY,hkl]
    have hse:=Ft (fr:=fr) (to:=to) (cf:=cf) (f:=f) (n:=g) (N:=fr.length) (v:=cf f g) (by rw[if_pos he])
    with_reducible (repeat' apply And.intro)
    all_goals(first
     | exact h1
     | (refine Pw rfl aG hb hcall rfl ?_
        simp only[go_sem,htl,hgr,List.set_set,Fq,List.length_set]
        with_reducible (repeat' apply And.intro)
        all_goals(first | exact h1 | exact h2 | exact⟨g+1,h2,by omega,by rw[<-hse,hwg]⟩)))
   ·exact⟨g+1,h2,by omega,by rw[Ft (by rw[if_neg (beq_eq_false_iff_ne.1 he)]),hwg]⟩
  ·obtain rfl:g=fr.length:=by omega
   exact⟨f+1,h1,by omega,by rw[Tr,aH h1 (by simp only[maxLen];omega)]⟩
 ·obtain rfl:f=fr.length:=by omega
  exact⟨rfl,rfl⟩
end Go.D3
namespace Go.D3
open Go
set_option maxHeartbeats 4000000
set_option maxRecDepth 100000
theorem Bg{O:List Int}(hr:∀i,i<O.length->0<=O.getD i 0/\O.getD i 0<O.length)(hn:O.Nodup):∀n,n<=O.length ->
  ((List.range n).foldl (fun o x=>o.set (O.getD x 0).toNat (x:Int)) (List.replicate O.length 0)).length=O.length/\∀x,x<n->((List.range n).foldl (fun o x=>o.set (O.getD x 0).toNat (x:Int)) (List.replicate O.length 0)).getD (O.getD x 0).toNat 0=x
 | 0,_=>⟨by simp,fun x hx=>by omega⟩
 | n+1,h=>by
  obtain⟨h1,h2⟩:=Bg hr hn n (by omega);have hrn:=hr n (by omega);rw[List.range_succ,List.foldl_append];simp only[List.foldl_cons,List.foldl_nil];refine⟨by rw[List.length_set,h1],fun x hx=>?_⟩;have hrx:=hr x (by omega);rw[jn (by omega)];by_cases hxn:x=n
  ·subst hxn;rw[if_pos rfl]
  ·rw[if_neg fun e=>hxn (Dt hn (show x<O.length by omega) (show n<O.length by omega) (by omega))]
   exact h2 x (by omega)
theorem M6{n:Nat}:(br n).Nodup:=by
 unfold br;rw[List.nodup_iff_pairwise_ne,List.pairwise_map];exact List.pairwise_lt_range.imp fun {a b} h e=>by omega
theorem ju.le{s:Sch}{list K:List Pth}{cl:List Int}(R:ju s list cl K):K.length<=400:=by
 have h1:=wv (M6 (n:=K.length)) (B:=cl) fun x hx=>by
  unfold br at hx;obtain⟨c,hc,rfl⟩:=List.mem_map.1 hx;obtain⟨m,m1,m2,_⟩:=R.k.ex c (List.mem_range.1 hc);rw[<-m2];exact cR (by rw[R.c.len];exact m1)
 rw[dF,R.c.len] at h1;have:=R.sh.len;omega
theorem ju.sp{s:Sch}{list K:List Pth}{cl:List Int}(R:ju s list cl K):∀p∈K,s.sp p:=fun p hp=>by
 obtain⟨c,hc,rfl⟩:=dZ (d:=Pth.zero) hp;obtain⟨m,m1,_,m3⟩:=R.k.ex c hc;rw[m3];exact R.sh.a.at' m1
theorem Po{s:Sch}(h:s.ok=true){list K:List Pth}{cl O:List Int}(R:ju s list cl K)(hp:O.Perm (br K.length))(hs:O.Pairwise fun a b=>¬s.lt (K.getD b.toNat Pth.zero) (K.getD a.toNat Pth.zero)) :
  O.length=K.length/\(∀i,i<O.length->0<=O.getD i 0/\O.getD i 0<O.length)/\og s list cl K O ((List.range O.length).foldl (fun o x=>o.set (O.getD x 0).toNat (x:Int)) (List.replicate O.length 0)) (O.map fun c=>K.getD c.toNat Pth.zero):=by
 have hl:O.length=K.length:=by rw[hp.length_eq,dF]
 have hr:∀i,i<O.length->0<=O.getD i 0/\O.getD i 0<O.length:=fun i hi=>by
  have:=hp.mem_iff.1 (cR (d:=0) hi);unfold br at this;obtain⟨d,hd,e⟩:=List.mem_map.1 this;have:=List.mem_range.1 hd;omega
 have hn:O.Nodup:=hp.nodup_iff.2 (by
  unfold br;rw[List.nodup_iff_pairwise_ne,List.pairwise_map]
  exact List.pairwise_lt_range.imp fun {a b} h e=>by omega)
 obtain⟨b1,b2⟩:=Bg hr hn O.length (Nat.le_refl _);exact⟨hl,hr,R,rfl,ie.U h R.sh.a R.c R.k hp hs,fun d hd=>hp.mem_iff.2 (List.mem_map.2 ⟨d,List.mem_range.2 hd,rfl⟩),fun i hi=>by have:=hr i hi;omega,b2,b1.trans hl⟩
theorem x9{s:Sch}:(D.vw (.ptr s.cells)).strip=.ptr s.cells:=by
 show D.ptr [_,(ints s.fr).strip,(ints s.to).strip,(U Pth.d Pth.zero s.lf).strip,(U Pth.d Pth.zero s.rt).strip]=_;rw[dj,dj,oc,oc];rfl
theorem MO{α β:Type}{f:α->D}{g:β->D}{l:List (α×β)}:(bz f g l).strip=bz f g l:=rfl
theorem PA{list K:List Pth}{cl:List Int}:(qU list cl K).strip=qU list cl K:=by
 show D.ptr [(j5 list).strip,(ints cl).strip,(U Pth.d Pth.zero K).strip]=_;rw[MO,dj,oc]
theorem PS:dY Go.Proofs.Tryz.prog 145=true:=by
 simp only[dY,Go.Proofs.Tryz.func145];rfl
theorem Tt{s:Sch}{ls:List Pth}:eK (ls.map Pth.st) (ls.map s.en) (fun f g=>(ls.getD g Pth.zero).ed.foldl (s.jq ls) (f:Int)) ls.length ls.length=(s.cM ls).c.co:=by
 show _=uY s ls ls.length;unfold eK uY;refine List.map_congr_left fun f hf=>?_
 have hf:=List.mem_range.1 hf;rw[if_pos hf];unfold fF kU;refine List.map_congr_left fun g hg=>?_
 have hg:=List.mem_range.1 hg;rw[if_pos hg,kF Pth.zero hf,kF Pth.zero hg];rfl
theorem Ee{s:Sch}{x:au}:stripL [.ptr (pv (.vw (.ptr s.cells)) x (U ep none (x.ls.map some)))]=[.ptr (pv (.ptr s.cells) x (U Pth.d Pth.zero x.ls))]:=by
 show[D.ptr [(D.vw (.ptr s.cells)).strip,_,(ints x.c.fr).strip,(ints x.c.to).strip,(ints x.c.aL).strip,(aO x.c.co).strip,(ints x.ed).strip,(U ep none (x.ls.map some)).strip]]=_;rw[x9,xf,pO,dj,dj,dj,dj];rfl
def AI(s:Sch)(l:List D):Prop:=(∃x,l=[.ptr (pv (.vw (.ptr s.cells)) x (U ep none (x.ls.map some))),.bc]/\s.bn=some x)\/∃m,l=[.aN,.bk 181 (.agg [.str m])]/\s.bn=none
def Im(s:Sch)(rc:D)(gs:List D):Prop:=gs=[]/\∃l,rc=.af l/\AI s l
def yW:List Nat:=[0,2,3,4,5,6,7,8,10,11,12,14,15,16,43,44,45,101,102,126,127,128]
def FQ:Sl:=ae Go.Proofs.Tryz.types Go.Proofs.Tryz.f115 yW [(0,140),(0,141),(0,144),(4,2),(9,1)]
theorem Ny:aD Go.Proofs.Tryz.prog Go.Proofs.Tryz.f115 yW FQ 1=true:=by decide +kernel
theorem QZ(s:Sch)(h:s.ok=true):bV Go.Proofs.Tryz.prog 115 [.ptr s.cells] [] (Im s):=by
 obtain⟨hk1,hlf,hrt⟩:=fg h;have hs:=ga hk1;have hto:=hs.to;have h0:=hs.n0;have h8:=hs.n8;have hf8:=hs.f8;refine nK .view Go.Proofs.Tryz.func115 Ny ?_;unfold FQ ae yW;simp only[go_sem];refine mS [] false (Rt s h) ?_;rintro _ _ ⟨rfl,l,rfl,hq⟩;refine⟨(by repeat(first | exact trivial | refine⟨(fun h=>by cases h),?_⟩)),(fun h=>by cases h),?_⟩;rcases hq with⟨list,cl,K,rfl,R⟩ | ⟨m,rfl,hq⟩
 rotate_left
 ·simp only[go_sem]
  exact⟨_,_,⟨rfl,_,rfl,.inr ⟨_,rfl,l8 hq⟩⟩,rfl,rfl,trivial⟩
 simp only[go_sem];refine mS [] false (QX hs R.sp R.le _ _) ?_;rintro _ _ ⟨rfl,O,rfl,hp,hsr⟩;refine⟨(by repeat(first | exact trivial | refine⟨(fun h=>by cases h),?_⟩)),(fun h=>by cases h),?_⟩;obtain⟨hOl,hOr,Q⟩:=Po h R hp hsr;have hKl:=R.le;simp only[go_sem];refine⟨fun h40=>?_,fun h40=>?_⟩
 ·exact⟨_,_,⟨rfl,_,rfl,.inr ⟨_,rfl,l8 (.iE _ Q.U fun ha=>by have:=ha.2.1;rw[List.length_map] at this;omega)⟩⟩,rfl,rfl,trivial⟩
 refine ak (Q1 O (by omega) (fun i hi=>hOr i hi)) rfl (.inl (bL _)) ?_;generalize hB:(List.range O.length).foldl (fun o x=>o.set (O.getD x 0).toNat (x:Int)) (List.replicate O.length 0)=B at Q;simp only[go_sem];generalize hls:(O.map fun c=>K.getD c.toNat Pth.zero)=ls at Q;have hlsl:ls.length=O.length:=by rw[<-hls,List.length_map]
 refine aI [8,9,10] (fun(i:Nat)=>[(7,.box [.o (.ptr [.vw (.ptr s.cells),.int .i64 s.nd,ints ((ls.take i).map Pth.st),ints ((ls.take i).map s.en),ints [],aO [],ints [],U ep none ((ls.take i).map some)])]),(16,.int .i64 i)]) (fun i=>i<=O.length) (fun i=>O.length-i) 0 (by simp only[go_sem];rfl) (Nat.zero_le _) rfl ?_;intro i hi;simp only[go_sem];refine⟨fun h1=>?_,fun h1=>?_⟩
 ·have hki:K.getD (O.getD i 0).toNat Pth.zero=ls.getD i Pth.zero:=by rw[<-hls,kF (0:Int) h1]
  obtain⟨y,hy⟩:=Q.U.sp _ (cR (d:=Pth.zero) (show i<ls.length by omega));have hend:=mc s (ls.getD i Pth.zero) hto h0;rw[hy] at hend;simp only[gN] at hend;have hr:=hOr i h1;simp only[hki];refine⟨h1,by omega,ak hend rfl (.inl rfl) ?_⟩;simp only[go_sem];have htl:(ls.take i).length=i:=by rw[List.length_take];omega
  simp only[List.length_map,htl];refine⟨rfl,by omega,by omega,by omega,i+1,h1,by omega,?_⟩;rw[b9 (show i<ls.length by omega) Pth.zero,aH h1 (by simp only[maxLen];omega)];simp only[List.map_append,List.map_cons,List.map_nil,oJ hy]
  try rfl
 obtain rfl:i=O.length:=by omega
 rw[List.take_of_length_le (show ls.length<=O.length by omega)];refine aI [11] (fun(x:Nat)=>[(7,.box [.o (.ptr [.vw (.ptr s.cells),.int .i64 s.nd,ints (ls.map Pth.st),ints (ls.map s.en),ints (mZ s ls x),aO [],ints [],U ep none (ls.map some)])]),(18,.int .i64 x)]) (fun x=>(x:Int)<=s.nd) (fun x=>s.nd.toNat-x) 0 (by simp only[go_sem];rfl) h0 rfl ?_;intro x hx;have hidl:(mZ s ls x).length=x:=nL;simp only[go_sem];refine⟨fun h2=>?_,fun h2=>?_⟩
 ·obtain⟨a,c,z,a1,a2,c1,c2,z1,z2,z3,z4⟩:=Q.at h ⟨_,oK (s:=s) (x:=x) (by omega) h2⟩
  have hbl:=Q.bl;have hwx:=aH (n:=9) (i:=x) (by omega) (by decide);have hids:mZ s ls (x+1)=mZ s ls x++[(z:Int)]:=by rw[<-z4];exact nM
  with_reducible (repeat' apply And.intro)
  all_goals(
   refine ak (tw hs R a1 _ _ a2) rfl (.inl rfl) ?_;simp only[go_sem,c1,z1,hidl]
   exact⟨by omega,by omega,x+1,by omega,by omega,by rw[hids,hwx]⟩)
 obtain rfl:x=s.nd.toNat:=by omega
 refine aI [12,13] (fun(k:Nat)=>[(7,.box [.o (.ptr [.vw (.ptr s.cells),.int .i64 s.nd,ints (ls.map Pth.st),ints (ls.map s.en),ints (mZ s ls s.nd.toNat),aO [],ints (oI s ls k),U ep none (ls.map some)])]),(21,.int .i64 k)]) (fun k=>k<=s.fr.length) (fun k=>s.fr.length-k) 0 (by simp only[go_sem];rfl) (Nat.zero_le _) rfl ?_;intro k hk;have hedl:(oI s ls k).length=k:=nL;simp only[go_sem];refine⟨fun h3=>?_,fun h3=>?_⟩
 ·have hfr:=gw hs.fr h3
  have hsp:=mT (p:=⟨s.fr.getD k 0,[]⟩) (oK hfr.1 hfr.2) h3 (show(0:Nat)<6 by decide);rw[List.nil_append] at hsp;obtain⟨a,c,z,a1,a2,c1,c2,z1,z2,z3,z4⟩:=Q.at h ⟨_,hsp⟩;have hbl:=Q.bl;have hwk:=aH h3 (show s.fr.length<=maxLen by simp only[maxLen];omega);have heds:oI s ls (k+1)=oI s ls k++[(z:Int)]:=by rw[<-z4];exact nM
  refine⟨h3,?_⟩
  with_reducible (repeat' apply And.intro)
  all_goals(
   refine ak (tw hs R a1 _ _ a2) rfl (.inl rfl) ?_;simp only[go_sem,c1,z1,hedl]
   exact⟨by omega,by omega,k+1,h3,by omega,by rw[heds,hwk]⟩)
 obtain rfl:k=s.fr.length:=by omega
 have hfl:(ls.map Pth.st).length=ls.length:=List.length_map _;have htl:(ls.map s.en).length=ls.length:=List.length_map _
 have htab:=QS (.vw (.ptr s.cells)) (.ptr s.cells) (U ep none (ls.map some)) (U Pth.d Pth.zero ls) x9 xf s.nd (ls.map Pth.st) (ls.map s.en) (mZ s ls s.nd.toNat) (oI s ls s.fr.length) B (qU list cl K) PA ⟨_,rfl⟩ 145 (fun f g=>(ls.getD g Pth.zero).ed.foldl (s.jq ls) f) (by omega) (by omega) PS
  (fun co f g hf hg he=>Rv h Q _ _ _ _ _ _ _ f g (by omega) (by omega) (by
    rw[kF Pth.zero (show f<ls.length by omega),kF Pth.zero (show g<ls.length by omega)] at he
    exact he))
 refine Ci [7,3,6] false htab ?_;simp only[go_sem];rw[hfl,Tt];refine Jq (QL h Q.U (by omega)) (xs:=[_]) rfl (Ee (s:=s) (x:=s.cM ls)) (.inl rfl) ?_;simp only[go_sem];refine⟨fun hg=>?_,fun hg=>?_⟩
 ·exact⟨_,_,⟨rfl,_,rfl,.inr ⟨_,rfl,sq Q.U (by simpa using hg)⟩⟩,rfl,rfl,trivial⟩
 ·refine⟨_,_,⟨rfl,_,rfl,.inl ⟨s.cM ls,rfl,l8 (.yes ls ⟨list,R.sh.nd,R.sh.a,R.sh.len⟩ Q.U ⟨fun p hp=>?_,by omega,by simpa using hg⟩)⟩⟩,rfl,rfl,trivial⟩
  obtain⟨j,hj,rfl⟩:=dZ (d:=Pth.zero) hp;exact Q.fZ hj
def au.pD(s:Sch)(x:au):D:=.ptr (pv (.ptr s.cells) x (U Pth.d Pth.zero x.ls))
def Io(s:Sch)(l:List D):Prop:=(∃x,l=[x.pD s,.bc]/\s.bn=some x)\/∃m,l=[.aN,.bk 181 (.agg [.str m])]/\s.bn=none
theorem Rw(s:Sch)(h:s.ok=true):bV Go.Proofs.Tryz.prog 115 [.ptr s.cells] [] fun rc gs=>gs=[]/\∃l,rc=.af l/\Io s l:=by
 refine(bV.clean (Q:=AI s) (QZ s h) fun l hl=>?_).imp fun r g ⟨hg,l,hr,hl⟩=>⟨hg,_,hr,?_⟩
 ·rcases hl with⟨_,rfl,_⟩ | ⟨_,rfl,_⟩<;>exact⟨trivial,trivial,trivial⟩
 ·rcases hl with⟨x,rfl,hh⟩ | ⟨m,rfl,hh⟩
  ·refine .inl ⟨x,?_,hh⟩
   have:=Ee (s:=s) (x:=x);injection this with this
   show[D.strip _,_]=_;rw[this];rfl
  ·exact .inr ⟨m,rfl,hh⟩
end Go.D3
namespace Go.D3
open Go Go.RowKit Go.Extern.Stop Go.Stop Go.Extern
set_option maxRecDepth 100000
set_option maxHeartbeats 4000000
theorem I4(t:Value)(w:World) :
  Calls Go.Proofs.Tryz.prog 116 #[.nilIface,t] w fun e w'=>e=.returned (.bool false)/\w'=w:=by
 go_enter Go.Proofs.Tryz.func116,Go.Proofs.Tryz.ntmps116
 go_wp2
 go_ret
 exact⟨rfl,rfl⟩
theorem Jb(t:Addr)(w:World):(ReflectliteValue.unpack (.iface 183 (.pointer (some t)))).run Go.Proofs.Tryz.prog w
  = .ok (.agg #[.pointer (some ⟨10,183,none⟩),.pointer (some ⟨w.heap.size,0,none⟩),.int .u64 150]) (w.alloc (.cells #[.pointer (some t)] 183)):=by kernel_rfl
theorem I8(a:Addr)(w:World):(ReflectliteValue.methodAny (ReflectliteValue.valueError "reflectlite.Value.Type" 0) (fun t _ _ _=>ReflectliteType.toType t) #[.agg #[.pointer (some ⟨10,183,none⟩),.pointer (some a),.int .u64 150]]).run Go.Proofs.Tryz.prog w
  = .ok (.iface 264 (.agg #[.pointer (some ⟨10,183,none⟩)])) w:=by kernel_rfl
theorem I2(h:Value)(w:World):(Go.method 506 264 (.agg #[h]) "Kind").run Go.Proofs.Tryz.prog w=.ok (292,h) w:=by kernel_rfl
theorem IY(w:World):((ReflectliteType.abiMethod fun t=>(fun a:Nat=>Value.int IntKind.u8 (a:Int)) <$> Rtype.kind t) #[.pointer (some ⟨10,183,none⟩)]).run Go.Proofs.Tryz.prog w=.ok (.int .u8 22) w:=by kernel_rfl
theorem IX(w:World):((ReflectliteType.abiMethod fun t=>(fun a:Nat=>Value.int IntKind.u8 (a:Int)) <$> Rtype.kind t) #[.pointer (some ⟨10,181,none⟩)]).run Go.Proofs.Tryz.prog w=.ok (.int .u8 25) w:=by kernel_rfl
theorem Fp(z:Sem Value)(f:TypeId->Addr->Nat->Nat->Sem Value)(v:Value) :
  ReflectliteValue.method z f #[v]=(do match<-ReflectliteValue.parts v with | none=>z | some (t,a,fl)=>f t a fl (fl % 32)):=rfl
theorem Ba(a:Addr)(w:World):(ReflectliteValue.parts (.agg #[.pointer (some ⟨10,183,none⟩),.pointer (some a),.int .u64 150])).run Go.Proofs.Tryz.prog w=.ok (some (183,a,150)) w:=by kernel_rfl
theorem IW(a p:Addr)(W:World)(ha:W.cell? a=some (.pointer (some p))) :
  (ReflectliteValue.method (ReflectliteValue.valueError "reflectlite.Value.IsNil" 0) ReflectliteValue.isNil #[.agg #[.pointer (some ⟨10,183,none⟩),.pointer (some a),.int .u64 150]]).run Go.Proofs.Tryz.prog W=.ok (.bool false) W:=by
 rw[Fp];simp only[Sem.run_bind,Ba,Result.andThen];simp[ReflectliteValue.isNil,loadVar,isAgg,underlying,Go.Proofs.Tryz.underlying183,ha,Result.andThen]
theorem I0(h:Value)(w:World):(Go.method 506 264 (.agg #[h]) "Elem").run Go.Proofs.Tryz.prog w=.ok (303,.agg #[h]) w:=by kernel_rfl
theorem I1(h:Value)(w:World):(Go.method 506 264 (.agg #[h]) "Implements").run Go.Proofs.Tryz.prog w=.ok (304,.agg #[h]) w:=by kernel_rfl
theorem IZ(h:Value)(w:World):(Go.method 506 264 (.agg #[h]) "AssignableTo").run Go.Proofs.Tryz.prog w=.ok (301,.agg #[h]) w:=by kernel_rfl
theorem IQ(w:World):(ReflectliteType.method ReflectliteType.elem #[.agg #[.pointer (some ⟨10,183,none⟩)]]).run Go.Proofs.Tryz.prog w=.ok (.iface 264 (.agg #[.pointer (some ⟨10,181,none⟩)])) w:=by kernel_rfl
theorem IV(w:World):(ReflectliteType.relation "Implements" ReflectliteType.implements_ #[.agg #[.pointer (some ⟨10,181,none⟩)],.iface 264 (.agg #[.pointer (some ⟨10,177,none⟩)])]).run Go.Proofs.Tryz.prog w=.ok (.bool true) w:=by kernel_rfl
theorem I9(v:Value)(w:World):(ReflectliteType.typeOf #[.iface 181 v]).run Go.Proofs.Tryz.prog w=.ok (.iface 264 (.agg #[.pointer (some ⟨10,181,none⟩)])) w:=by kernel_rfl
theorem IN(w:World):(ReflectliteType.relation "AssignableTo" ReflectliteType.assignableTo #[.agg #[.pointer (some ⟨10,181,none⟩)],.iface 264 (.agg #[.pointer (some ⟨10,181,none⟩)])]).run Go.Proofs.Tryz.prog w=.ok (.bool true) w:=by kernel_rfl
theorem Ja(e:ByteArray)(w:World):(ReflectliteValue.unpack (.iface 181 (.agg #[.string e]))).run Go.Proofs.Tryz.prog w
  = .ok (.agg #[.pointer (some ⟨10,181,none⟩),.pointer (some ⟨w.heap.size,0,none⟩),.int .u64 153]) (w.alloc (.cells #[.string e] 181)):=by kernel_rfl
theorem IS(w:World):(Rtype.elem? 183).run Go.Proofs.Tryz.prog w=.ok (some 181) w:=by kernel_rfl
theorem I3(p:Addr)(w:World):(ReflectliteValue.mk 181 p ReflectliteValue.flagAddr).run Go.Proofs.Tryz.prog w=.ok (.agg #[.pointer (some ⟨10,181,none⟩),.pointer (some p),.int .u64 409]) w:=by kernel_rfl
theorem IT(a p:Addr)(W:World)(ha:W.cell? a=some (.pointer (some p))) :
  (ReflectliteValue.method (ReflectliteValue.valueError "reflectlite.Value.Elem" 0) ReflectliteValue.elem #[.agg #[.pointer (some ⟨10,183,none⟩),.pointer (some a),.int .u64 150]]).run Go.Proofs.Tryz.prog W
    = .ok (.agg #[.pointer (some ⟨10,181,none⟩),.pointer (some p),.int .u64 409]) W:=by
 rw[Fp];simp only[Sem.run_bind,Ba,Result.andThen];simp[ReflectliteValue.elem,loadVar,isAgg,underlying,Go.Proofs.Tryz.underlying183,ha,Result.andThen,IS,I3]
theorem RZ(v x:Value):ReflectliteValue.set #[v,x]=(do
  let(some (dst,a,fl),some (src,b,_)):=(<-ReflectliteValue.parts v,<-ReflectliteValue.parts x)
   | unsupported (.noEntry "extern/(internal/reflectlite.Value).Set.zeroValue")
  if fl / ReflectliteValue.flagAddr % 2 == 0 then unsupported (.noEntry "extern/(internal/reflectlite.Value).Set.unaddressable")
  let val <-loadVar src b
  if<-Rtype.directlyAssignable dst src then storeVar dst a val
  else if<-Rtype.implements dst src then
   if(<-Rtype.kind src) == 20 then
    match val with
    | .nilIface=>unsupported (.noEntry "extern/reflectlite: a nil value of one interface type handed on as a value of another")
    | _=>storeVar dst a val
   else storeVar dst a (.iface src val)
  else panicString ("reflectlite.Set: value of type "++(<-Rtype.spelt src)++ " is not assignable to type "++(<-Rtype.spelt dst))
  pure (.tuple #[])):=rfl
theorem I6(a:Addr)(w:World):(ReflectliteValue.parts (.agg #[.pointer (some ⟨10,181,none⟩),.pointer (some a),.int .u64 409])).run Go.Proofs.Tryz.prog w=.ok (some (181,a,409)) w:=by kernel_rfl
theorem I5(a:Addr)(w:World):(ReflectliteValue.parts (.agg #[.pointer (some ⟨10,181,none⟩),.pointer (some a),.int .u64 153])).run Go.Proofs.Tryz.prog w=.ok (some (181,a,153)) w:=by kernel_rfl
theorem IP(w:World):(Rtype.directlyAssignable 181 181).run Go.Proofs.Tryz.prog w=.ok true w:=by kernel_rfl
theorem IM(w:World):(isAgg 181).run Go.Proofs.Tryz.prog w=.ok true w:=by kernel_rfl
theorem Bb(w:World):(sizeOf 181).run Go.Proofs.Tryz.prog w=.ok 1 w:=by kernel_rfl
theorem I7(ta b:Addr)(e:ByteArray)(old:Value)(W:World)(hb:W.cell? b=some (.string e))(ht:W.cell? ta=some old)(hf:W.frozen? ta=false) :
  (ReflectliteValue.set #[.agg #[.pointer (some ⟨10,181,none⟩),.pointer (some ta),.int .u64 409],.agg #[.pointer (some ⟨10,181,none⟩),.pointer (some b),.int .u64 153]]).run Go.Proofs.Tryz.prog W
    = .ok (.tuple #[]) (W.setCell ta (.string e)):=by
 have hld:(loadVar 181 b).run Go.Proofs.Tryz.prog W=.ok (.agg #[.string e]) W:=by
  unfold loadVar
  have hl:(loadCells b 1).run Go.Proofs.Tryz.prog W=.ok #[.string e] W:=run_loadCells_list W b [.string e] fun j v hj=>by
   cases j with
   | zero=>simp only[List.getElem?_cons_zero,Option.some.injEq] at hj;subst hj;exact hb
   | succ j=>simp at hj
  simp only[Sem.run_bind,IM,Bb,Result.andThen,if_true,hl];rfl
 have aG:(storeVar 181 ta (.agg #[.string e])).run Go.Proofs.Tryz.prog W=.ok () (W.setCell ta (.string e)):=by
  unfold storeVar;simp only[Sem.run_bind,Bb,Result.andThen];rw[if_neg (show ¬(Value.agg #[Value.string e]).cells.size≠1 from fun h=>h rfl)];show(storeCells ta [Value.string e]).run _ W=_;simp only[storeCells,Sem.run_bind,Addr.add,if_true];rw[run_store Go.Proofs.Tryz.prog W ta _ _ (by rfl)];simp[ht,hf,Result.andThen]
 rw[RZ];simp only[Sem.run_bind,I6,I5,Result.andThen];simp[ReflectliteValue.flagAddr,hld,Result.andThen,IP,aG]
theorem IU(e:ByteArray)(t:Addr)(old:Value)(w:World)(hg:w.cell? ⟨0,0,none⟩=some (.iface 264 (.agg #[.pointer (some ⟨10,177,none⟩)])))(ht0:w.cell? t=some old)(hf0:w.frozen? t=false) :
  Calls Go.Proofs.Tryz.prog 116 #[.iface 181 (.agg #[.string e]),.iface 183 (.pointer (some t))] w fun ev w'=>ev=.returned (.bool true)/\w'=((((w.alloc (.cells #[.pointer (some t)] 183)).alloc (.cells #[.pointer (some ⟨10,183,none⟩),.pointer (some ⟨w.heap.size,0,none⟩),.int .u64 150] 219)).alloc (.cells #[.pointer (some ⟨10,183,none⟩),.pointer (some ⟨w.heap.size,0,none⟩),.int .u64 150] 219)).alloc (.cells #[.string e] 181)).setCell t (.string e):=by
 have h6:=@run_callFunc_extern Go.Proofs.Tryz.prog 147 _ (fun args=>ReflectliteValue.unpack (args.getD 0 (.tuple #[]))) Go.Proofs.Tryz.func147 (by kernel_rfl) (by kernel_rfl) (by kernel_rfl) (by kernel_rfl);have h7:=@run_callFunc_extern Go.Proofs.Tryz.prog 148 _ (ReflectliteValue.methodAny (ReflectliteValue.valueError "reflectlite.Value.Type" 0) (fun t _ _ _=>ReflectliteType.toType t)) Go.Proofs.Tryz.func148 (by kernel_rfl) (by kernel_rfl) (by kernel_rfl) (by kernel_rfl);have h8:=@run_callFunc_extern Go.Proofs.Tryz.prog 149 _ (ReflectliteValue.method (ReflectliteValue.valueError "reflectlite.Value.IsNil" 0) ReflectliteValue.isNil) Go.Proofs.Tryz.func149 (by kernel_rfl) (by kernel_rfl) (by kernel_rfl) (by kernel_rfl);have h27:=@run_callFunc_extern Go.Proofs.Tryz.prog 292 _ (ReflectliteType.abiMethod fun t=>do pure (.int .u8 (<-Rtype.kind t))) Go.Proofs.Tryz.func292 (by kernel_rfl) (by kernel_rfl) (by kernel_rfl) (by kernel_rfl);have h37:=@run_callFunc_extern Go.Proofs.Tryz.prog 303 _ (ReflectliteType.method ReflectliteType.elem) Go.Proofs.Tryz.func303 (by kernel_rfl) (by kernel_rfl) (by kernel_rfl) (by kernel_rfl);have h38:=@run_callFunc_extern Go.Proofs.Tryz.prog 304 _ (ReflectliteType.relation "Implements" ReflectliteType.implements_) Go.Proofs.Tryz.func304 (by kernel_rfl) (by kernel_rfl) (by kernel_rfl) (by kernel_rfl);have h10:=@run_callFunc_extern Go.Proofs.Tryz.prog 187 _ ReflectliteType.typeOf Go.Proofs.Tryz.func187 (by kernel_rfl) (by kernel_rfl) (by kernel_rfl) (by kernel_rfl);have h35:=@run_callFunc_extern Go.Proofs.Tryz.prog 301 _ (ReflectliteType.relation "AssignableTo" ReflectliteType.assignableTo) Go.Proofs.Tryz.func301 (by kernel_rfl) (by kernel_rfl) (by kernel_rfl) (by kernel_rfl);have h11:=@run_callFunc_extern Go.Proofs.Tryz.prog 188 _ (ReflectliteValue.method (ReflectliteValue.valueError "reflectlite.Value.Elem" 0) ReflectliteValue.elem) Go.Proofs.Tryz.func188 (by kernel_rfl) (by kernel_rfl) (by kernel_rfl) (by kernel_rfl)
 have h12:=@run_callFunc_extern Go.Proofs.Tryz.prog 189 _ ReflectliteValue.set Go.Proofs.Tryz.func189 (by kernel_rfl) (by kernel_rfl) (by kernel_rfl) (by kernel_rfl);have tO:=I9;have mA:=IZ;have a25:=IN;have v25:=Ja;have f6:=Jb;have f7:=I8;have mK:=I2;have mE:=I0;have mI:=I1;have k27:=IY;have k25:=IX;have e27:=IQ;have i25:=IV;have n8:=IW ⟨w.heap.size,0,none⟩ t ((w.alloc (.cells #[.pointer (some t)] 183)).alloc (.cells #[.pointer (some ⟨10,183,none⟩),.pointer (some ⟨w.heap.size,0,none⟩),.int .u64 150] 219)) (by simp)
 have hlt : 0<w.heap.size:=by
  rcases Nat.eq_zero_or_pos w.heap.size with h0 | h
  ·simp[World.cell?,h0] at hg
  ·exact h
 have hg2:((w.alloc (.cells #[.pointer (some t)] 183)).alloc (.cells #[.pointer (some ⟨10,183,none⟩),.pointer (some ⟨w.heap.size,0,none⟩),.int .u64 150] 219)).cell? ⟨0,0,none⟩=some (.iface 264 (.agg #[.pointer (some ⟨10,177,none⟩)])):=by
  rw[World.cell?_alloc_lt _ _ ⟨0,0,none⟩ (by simp),World.cell?_alloc_lt _ _ ⟨0,0,none⟩ hlt];exact hg
 have htl:t.block<w.heap.size:=by
  rcases Nat.lt_or_ge t.block w.heap.size with h | h
  ·exact h
  ·simp[World.cell?,Array.getElem?_eq_none h] at ht0
 have el:=IT ⟨w.heap.size,0,none⟩ t (((w.alloc (.cells #[.pointer (some t)] 183)).alloc (.cells #[.pointer (some ⟨10,183,none⟩),.pointer (some ⟨w.heap.size,0,none⟩),.int .u64 150] 219)).alloc (.cells #[.pointer (some ⟨10,183,none⟩),.pointer (some ⟨w.heap.size,0,none⟩),.int .u64 150] 219)) (by rw[World.cell?_alloc_lt _ _ ⟨w.heap.size,0,none⟩ (by simp;omega)];simp)
 have st:=I7 t ⟨w.heap.size+1+1+1,0,none⟩ e old ((((w.alloc (.cells #[.pointer (some t)] 183)).alloc (.cells #[.pointer (some ⟨10,183,none⟩),.pointer (some ⟨w.heap.size,0,none⟩),.int .u64 150] 219)).alloc (.cells #[.pointer (some ⟨10,183,none⟩),.pointer (some ⟨w.heap.size,0,none⟩),.int .u64 150] 219)).alloc (.cells #[.string e] 181))
  (by rw[World.cell?_alloc_at _ _ _ _ (by simp)];rfl)
  (by rw[World.cell?_alloc_lt _ _ t (by simp;omega),World.cell?_alloc_lt _ _ t (by simp;omega),World.cell?_alloc_lt _ _ t (by simp;omega),World.cell?_alloc_lt _ _ t htl];exact ht0)
  (by rw[World.frozen?_alloc_old _ _ t (by simp;omega),World.frozen?_alloc_old _ _ t (by simp;omega),World.frozen?_alloc_old _ _ t (by simp;omega),World.frozen?_alloc_old _ _ t (Nat.ne_of_lt htl)];exact hf0)
 go_enter Go.Proofs.Tryz.func116,Go.Proofs.Tryz.ntmps116
 go_wp2
 refine wp_loop_rounds 1 ?_;rw[rounds_succ]
 go_wp2
 go_ret
 exact⟨rfl,rfl⟩
end Go.D3
namespace Go.D3
open Go Go.RowKit Go.Extern.Stop Go.Stop Go.Extern
set_option maxRecDepth 100000
set_option maxHeartbeats 4000000
theorem JC{w:World}{v:Value}(h:w.cell? ⟨0,0,none⟩=some v) : 0<w.heap.size:=by
 rcases Nat.eq_zero_or_pos w.heap.size with h0 | h1
 ·simp[World.cell?,h0] at h
 ·exact h1
theorem PC(v:Value)(w:World)(Φ:Addr->World->Prop)(hc:Calls Go.Proofs.Tryz.prog 115 #[v] w fun e w'=>∃a,e=.returned (.tuple #[.pointer (some a),.nilIface])/\Φ a w') :
  Calls Go.Proofs.Tryz.prog 89 #[v] w fun e w''=>∃a w',e=.returned (.tuple #[.pointer (some a),.int .i64 0])/\Φ a w'/\∃s t,w''=w'.alloc (.cells #[.string s] t):=by
 go_enter Go.Proofs.Tryz.func89,Go.Proofs.Tryz.ntmps89
 go_wp2_with (first
  | (go_at_call 115;refine hc.mono ?_;rintro e w' ⟨a,rfl,hΦ⟩)
  | (go_at_call 116;refine(I4 _ _).mono ?_;rintro e w' ⟨rfl,rfl⟩))
 all_goals go_ret2
 exact⟨a,w',rfl,hΦ,_,_,rfl⟩
theorem PB(v:Value)(w:World)(Φ:World->Prop)(hc:Calls Go.Proofs.Tryz.prog 115 #[v] w fun e w'=>∃s,e=.returned (.tuple #[.pointer none,.iface 181 (.agg #[.string s])])/\Φ w'/\w'.cell? ⟨0,0,none⟩=some (.iface 264 (.agg #[.pointer (some ⟨10,177,none⟩)]))) :
  Calls Go.Proofs.Tryz.prog 89 #[v] w fun e w''=>∃w',e=.returned (.tuple #[.pointer none,.int .i64 3])/\Φ w'/\w'.heap.size<=w''.heap.size/\(∀c,c<w'.heap.size->w''.heap[c]?=w'.heap[c]?)/\w''.os=w'.os/\w''.tape=w'.tape/\w''.output=w'.output:=by
 go_enter Go.Proofs.Tryz.func89,Go.Proofs.Tryz.ntmps89
 go_wp2_with (first
  | (go_at_call 115;refine hc.mono ?_;rintro e w' ⟨s,rfl,hΦ,hg⟩;have hlt:=JC hg)
  | (go_at_call 116;refine(IU s ⟨w'.heap.size,0,none⟩ (.string ⟨#[]⟩) (w'.alloc (.cells #[.string ⟨#[]⟩] 181)) (by rw[World.cell?_alloc_lt _ _ ⟨0,0,none⟩ hlt];exact hg) (by rw[World.cell?_alloc_at _ _ _ _ (by simp)];rfl) (by simp only[World.frozen?,heap_alloc_new];rfl)).mono ?_;rintro e w' ⟨rfl,rfl⟩))
 all_goals go_ret2
 refine⟨w',rfl,hΦ,by simp;omega,fun c hc=>?_,rfl,rfl,rfl⟩;rw[Go.heap_alloc_old _ _ (by simp;omega),Go.heap_alloc_old _ _ (by simp;omega),Go.heap_alloc_old _ _ (by simp;omega),Go.heap_alloc_old _ _ (by simp;omega),Go.heap_alloc_old _ _ hc]
noncomputable def kS(s:Sch):D:=match s.bn with
 | some x=>.af [x.pD s,.int .i64 0]
 | none=>.af [.aN,.int .i64 3]
theorem Eh{s:Sch}{x:au}(h:s.bn=some x):kS s=.af [x.pD s,.int .i64 0]:=by unfold kS;rw[h]
theorem Eg{s:Sch}(h:s.bn=none):kS s=.af [.aN,.int .i64 3]:=by unfold kS;rw[h]
theorem ED{w:World}{A:Nat->Prop}{v:Value}{x y:D}(h:Rd w A v (.af [x,y])):∃a b,v=.tuple #[a,b]/\Rd w A a x/\Rd w A b y:=by
 cases h with
 | @af cs _ hs hr =>
  have h2:cs.size=2:=hs;obtain⟨l⟩:=cs
  match l,h2 with
  | [a,b],_=>exact⟨a,b,rfl,hr 0 _ rfl,hr 1 _ rfl⟩
theorem EC{w:World}{A:Nat->Prop}{a b:Value}{x y:D}(h1:Rd w A a x)(h2:Rd w A b y):Rd w A (.tuple #[a,b]) (.af [x,y]):=by
 refine .af rfl fun j d hj=>?_
 match j with
 | 0=>cases hj;exact h1
 | 1=>cases hj;exact h2
 | _+2=>cases hj
theorem E4(s:Sch)(h:s.ok=true):al Go.Proofs.Tryz.prog 89 [.v (.ptr s.cells)] (.vw (kS s)):=by
 intro w A vs Fs hg hA hn hpre hdis hFs
 have hE:∀j b,¬Fs j b:=fun j b hb=>by
  have:=(hFs j b hb).2.2
  match j,this with
  | 0,_=>exact(hpre 0 _ rfl).2 b hb
 have hvs:vs=#[vs.getD 0 undef]:=by
  match vs,hn with
  | ⟨[x]⟩,_=>rfl
 have hv:Rd w A (vs.getD 0 undef) (.ptr s.cells):=(hpre 0 _ rfl).1
 have hrd:=(Rw s h).2 w A vs (fun _=>undef) (fun _ _=>False) hg hA hn (fun j a hj=>by
  match j with
  | 0=>cases hj;exact .rd hv
  | _+1=>cases hj) (fun k=>Pl.dead) (fun _ _ _ h=>h) (fun _ _ _ _ h=>h.elim) fun _ _ h=>h.elim
 have fin:∀{e:Ending}{w' w'':World}{v:Value}{A':Nat->Prop},e=.returned v->w.heap.size<=w'.heap.size->(∀b,b<w.heap.size->w'.heap[b]?=w.heap[b]?)->w'.os=w.os->w'.tape=w.tape->w'.output=w.output->w'.heap.size<=w''.heap.size->(∀b,b<w'.heap.size->w''.heap[b]?=w'.heap[b]?)->w''.os=w'.os->w''.tape=w'.tape->w''.output=w'.output ->
   (∀b,A' b->A b\/(w.heap.size<=b/\b<w'.heap.size))->Rd w'' A' v (kS s) ->
   ∃(v:Value)(F:Nat->Prop)(Fs':Nat->Nat->Prop),e=.returned v/\w.heap.size<=w''.heap.size /\
   aj w'' (fun b=>A b\/(w.heap.size<=b/\b<w''.heap.size/\¬F b/\∀j,¬Fs' j b)) v (.vw (kS s)) F /\
   (∀(j:Nat)(a:Arg),[Arg.v (D.ptr s.cells)][j]?=some a->a.post w'' (fun b=>A b\/(w.heap.size<=b/\b<w''.heap.size/\¬F b/\∀j,¬Fs' j b)) (vs.getD j undef) (Fs' j)) /\
   (∀b,F b->b<w''.heap.size/\(w.heap.size<=b\/∃j,Fs j b)/\∀j,¬Fs' j b)/\(∀j b,Fs' j b->b<w''.heap.size/\(w.heap.size<=b\/∃j,Fs j b)/\j < [Arg.v (D.ptr s.cells)].length)/\(∀i j b,i≠j->Fs' i b->¬Fs' j b) /\
   (∀b,b<w.heap.size->(∀j,¬Fs j b)->w''.heap[b]?=w.heap[b]?)/\w''.os=w.os/\w''.tape=w.tape/\cB w w'':=by
  intro e w' w'' v A' he h1 h2 h3 h4 h5 g1 g2 g3 g4 g5 hA' hr;refine⟨v,fun _=>False,fun _ _=>False,he,by omega,.vw (hr.mono (fun b hb=>(hA' b hb).imp id fun hh=>⟨hh.1,by omega,id,fun _=>id⟩) fun _ _=>rfl),fun j a hj=>?_,fun _ h=>h.elim,fun _ _ h=>h.elim,fun _ _ _ _ h=>h.elim,fun b hb _=>(g2 b (by omega)).trans (h2 b hb),g3.trans h3,g4.trans h4,DX (g5.trans h5)⟩
  match j with
  | 0=>cases hj;exact fun _ h=>h
  | _+1=>cases hj
 rw[hvs] at hrd
 conv=>arg 3;rw[hvs]
 cases hp:s.bn with
 | some x =>
  refine(PC _ w (fun a w'=>w.heap.size<=w'.heap.size/\(∀b,b<w.heap.size->w'.heap[b]?=w.heap[b]?)/\w'.os=w.os/\w'.tape=w.tape/\w'.output=w.output/\Rd w' (fun b=>A b\/(w.heap.size<=b/\b<w'.heap.size)) (.pointer (some a)) (x.pD s)) (hrd.mono ?_)).mono ?_
  ·rintro e w' ⟨rc,gs',v,F,gv',Fs',⟨rfl,l,rfl,hq⟩,rfl,hsz,hc,_,_,_,_,_,_,_,hsame,hos,htape,hout⟩
   rcases hq with⟨y,rfl,hy⟩ | ⟨m,rfl,hno⟩
   rotate_left
   ·rw[hp] at hno;cases hno
   obtain rfl:y=x:=by rw[hp] at hy;injection hy with hy;exact hy.symm
   obtain⟨a,b,rfl,h1,h2⟩:=ED (mL hc ⟨trivial,trivial,trivial⟩);cases h2
   obtain⟨q,rfl⟩:∃q,a=.pointer (some q):=by
    unfold au.pD at h1;cases h1;exact⟨_,rfl⟩
   exact⟨q,rfl,hsz,fun b hb=>hsame b hb fun _ h=>h,hos,htape,hout.1,h1.mono (fun b hb=>hb.imp id fun hh=>⟨hh.1,hh.2.1⟩) fun _ _=>rfl⟩
  ·rintro e w'' ⟨a,w',he,⟨h1,h2,h3,h4,h5,h6⟩,t,ty,rfl⟩
   refine fin (w':=w') he h1 h2 h3 h4 h5 (by simp) (fun b hb=>Go.heap_alloc_old _ _ hb) rfl rfl rfl (fun _ h=>h) ?_;unfold kS;rw[hp];exact EC (h6.mono (fun _ h=>h) fun b hb=>Go.heap_alloc_old _ _ (hb.elim (fun ha=>by have:=hA b ha;omega) fun hh=>hh.2)) (.int (nA (k:=.i64) (n:=0) rfl))
 | none =>
  refine(PB _ w (fun w'=>w.heap.size<=w'.heap.size/\(∀b,b<w.heap.size->w'.heap[b]?=w.heap[b]?)/\w'.os=w.os/\w'.tape=w.tape/\w'.output=w.output) (hrd.mono ?_)).mono ?_
  ·rintro e w' ⟨rc,gs',v,F,gv',Fs',⟨rfl,l,rfl,hq⟩,rfl,hsz,hc,_,_,_,_,_,_,_,hsame,hos,htape,hout⟩
   rcases hq with⟨y,rfl,hy⟩ | ⟨m,rfl,_⟩
   ·rw[hp] at hy;cases hy
   obtain⟨a,b,rfl,h1,h2⟩:=ED (mL hc ⟨trivial,trivial,trivial⟩);cases h1
   obtain⟨q,rfl⟩:∃q,b=.iface 181 (.agg #[.string q]):=by
    cases h2 with
    | bk h2 =>
     cases h2 with
     | @agg cs _ hs hr =>
      have h3:cs.size=1:=hs;obtain⟨l⟩:=cs
      match l,h3 with
      | [u],_ =>
       have:=hr 0 _ rfl;cases this;exact⟨_,rfl⟩
   refine⟨q,rfl,⟨hsz,fun b hb=>hsame b hb fun _ h=>h,hos,htape,hout.1⟩,?_⟩;rw[cell_of_heap (hsame 0 (hA 0 hg.B4.2) fun _ h=>h)];exact hg.B4.1
  ·rintro e w'' ⟨w',he,⟨h1,h2,h3,h4,h5⟩,g1,g2,g3,g4,g5⟩
   refine fin (w':=w') (A':=fun _=>False) he h1 h2 h3 h4 h5 g1 g2 g3 g4 g5 (fun _ h=>h.elim) ?_;unfold kS;rw[hp];exact EC .aN (.int (nA (k:=.i64) (n:=3) rfl))
end Go.D3
