/- 'FnCrashes': whatever the code that a journal and a transaction are drawn from, the program's CommitChanges answers as the reference does, the journal with the transaction is read with the data that ApplyChanges gives, and cut anywhere behind the good part it is read as before the transaction or, uncut, as behind it. The card: package-level variables hold at the start what the program's text lays. No further conditions. -/
import Derived.Test.YtpjbamibcngihaaGreatDoorGBP
import Derived.Test.YtpjbamibcngihaaGreatDoorGAY
import Derived.Test.YtpjbamibcngihaaGreatDoorGAZ
import Derived.Test.YtpjbamibcngihaaGreatDoorGBL
import Derived.Test.YtpjbamibcngihaaGreatDoorGBC
import Derived.Test.YtpjbamibcngihaaGreatDoorGBA
import Derived.Test.YtpjbamibcngihaaGreatDoorGAW
import Derived.Test.YtpjbamibcngihaaGreatDoorGBQ
import Derived.Test.YtpjbamibcngihaaGreatDoorGAU
import Derived.Test.YtpjbamibcngihaaGreatDoorGBS
import Derived.Test.YtpjbamibcngihaaGreatDoorCards
import Derived.Test.YtpjbamibcngihaaGreatDoorTie
import Derived.JoinedCond
import Derived.Deep.DeepHandedRow
import Derived.Lay
namespace Go.D3
open Go
set_option maxHeartbeats 4000000
set_option maxRecDepth 100000
def Cc:List Nat:=[0,1,4,5,6,7,8,9]
def Ka:Sl:=ak Go.Proofs.Tryz.types Go.Proofs.Tryz.f38 Cc [(0,28),(0,29),(0,32),(0,61),(0,62)]
theorem Sv:aF Go.Proofs.Tryz.prog Go.Proofs.Tryz.f38 Cc Ka 2=true:=by decide +kernel
theorem Vj{cc:List Int}(hcc:fq cc){a:Nat}{h:Int}(ha:a<=cc.length)(t:List UInt8)(ht:t.length<=5000000):bM Go.Proofs.Tryz.prog 38 [.aw 0 [(0,0)],.str t] [bU cc a h] (Cv cc):=by
 refine dN .tree Go.Proofs.Tryz.func38 Sv ?_;unfold Ka ak Cc;simp only[go_sem];refine en [] false (u4 t ht) ?_;cases hr:bn t with
 | none =>
  simp only[lv];simp only[go_sem];exact⟨_,_,⟨a,h,[⟨1,0,0,0⟩],ha,rfl,rfl⟩,rfl,rfl,rfl,trivial⟩
 | some p =>
  obtain⟨hok,hH⟩:=gJ hr;have hs:=eA (dM hok).1;have hdl:=hH.dl;have h6:=hH.t6;have hgl:=hH.gl;simp only[lv,Hs.pl];simp only[go_sem];have hlast:=u7 (bX.of p.1 p.2) (by show 0<p.2.dt.length;omega) (by show p.2.dt.length<=_;omega);rw[tO] at hlast;refine en [] false hlast ?_;simp only[go_sem];refine bf [8] false (dG hcc ha 30) ?_;rintro _ _ ⟨a,h,x,ha,-,rfl,rfl⟩;refine⟨(by repeat(first | exact trivial | refine⟨(fun h=>by cases h),?_⟩)),(fun h=>by cases h),?_⟩;simp only[go_sem];refine⟨fun h1=>?_,fun h1=>?_⟩
  ·refine aE [] (fun(q:Nat×List ah×Nat×Int)=>[(6,.o (ae ah.d ah.zero q.2.1)),(7,.int .i64 q.1),(8,bU cc q.2.2.1 q.2.2.2)]) (fun q=>q.1<=41/\q.2.1.length<=q.1/\q.2.2.1<=cc.length) (fun q=>41-q.1) (0,[],a,h) (by simp only[go_sem];rfl) ⟨Nat.zero_le _,Nat.le_refl _,ha⟩ rfl ?_
   rintro⟨i,l,a,h⟩ ⟨hi,hl,ha⟩;simp only at hi hl ha;simp only[go_sem];refine bf [8] false (dG hcc ha 2) ?_;rintro _ _ ⟨a,h,x,ha,⟨x0,-,x2⟩,rfl,rfl⟩;have x2:=x2 (by decide);refine⟨(by repeat(first | exact trivial | refine⟨(fun h=>by cases h),?_⟩)),(fun h=>by cases h),?_⟩;simp only[go_sem];rw[wrap_small (n:=40+x) (by omega) (by omega)];refine⟨fun h2=>?_,fun h2=>?_⟩
   ·refine bf [8] false (u6 hcc ha p.1 p.2.last hs hH.last) ?_
    rintro _ _ ⟨a,h,c,ha,rfl,rfl⟩;refine⟨(by repeat(first | exact trivial | refine⟨(fun h=>by cases h),?_⟩)),(fun h=>by cases h),?_⟩;simp only[go_sem];exact⟨by omega,(i+1,l++[c],a,h),⟨by simp only;omega,by simp only[List.length_append,List.length_cons,List.length_nil];omega,ha⟩,by simp only;omega,by rw[Cq (by omega)]⟩
   ·exact⟨_,_,⟨a,h,l,ha,rfl,rfl⟩,rfl,rfl,rfl,trivial⟩
  ·refine bf [8] false (dG hcc ha 4) ?_
   rintro _ _ ⟨a,h,y,ha,-,rfl,rfl⟩;refine⟨(by repeat(first | exact trivial | refine⟨(fun h=>by cases h),?_⟩)),(fun h=>by cases h),?_⟩;simp only[go_sem];refine⟨fun h2=>?_,fun h2=>?_⟩
   ·refine bf [8] false (u6 hcc ha p.1 p.2.last hs hH.last) ?_
    rintro _ _ ⟨a,h,c,ha,rfl,rfl⟩;refine⟨(by repeat(first | exact trivial | refine⟨(fun h=>by cases h),?_⟩)),(fun h=>by cases h),?_⟩;simp only[go_sem];exact⟨_,_,⟨a,h,[c],ha,rfl,rfl⟩,rfl,rfl,rfl,trivial⟩
   ·refine bf [8] false (H5 hcc ha p.1 p.2.last hok hs hH.last) ?_
    rintro _ _ ⟨a,h,l,ha,rfl,rfl⟩;refine⟨(by repeat(first | exact trivial | refine⟨(fun h=>by cases h),?_⟩)),(fun h=>by cases h),?_⟩;simp only[go_sem];exact⟨_,_,⟨a,h,l,ha,rfl,rfl⟩,rfl,rfl,rfl,trivial⟩
def Lg(rc:D)(gs:List D):Prop:=gs=[]/\∃(t:List UInt8)(l:List ah),t.length<=6020/\rc=.o (.au [.str t,ae ah.d ah.zero l])
def Bf:List Nat:=[0,2,3,4,5]
def Je:Sl:=ak Go.Proofs.Tryz.types Go.Proofs.Tryz.f12 Bf [(0,26),(0,27),(0,38),(1,26)]
theorem Rm:aF Go.Proofs.Tryz.prog Go.Proofs.Tryz.f12 Bf Je 1=true:=by decide +kernel
theorem UM{c:List Int}(hc:fq c):bM Go.Proofs.Tryz.prog 12 [ae (D.int .u8) 0 c] [] Lg:=by
 refine dN .tree Go.Proofs.Tryz.func12 Rm ?_;unfold Je ak Bf;simp only[go_sem];refine bf [] false (HS c hc) ?_;rintro _ _ ⟨rfl,h,rfl⟩;refine⟨(by repeat(first | exact trivial | refine⟨(fun h=>by cases h),?_⟩)),(fun h=>by cases h),?_⟩;unfold bU;simp only[go_sem];refine bf [3] false (H4 hc (Nat.zero_le _)) ?_;rintro _ _ ⟨a,h,t,ha,ht,rfl,rfl⟩;refine⟨(by repeat(first | exact trivial | refine⟨(fun h=>by cases h),?_⟩)),(fun h=>by cases h),?_⟩;simp only[go_sem];refine bf [3] false (Vj hc ha t (by omega)) ?_;rintro _ _ ⟨a,h,l,ha,rfl,rfl⟩;refine⟨(by repeat(first | exact trivial | refine⟨(fun h=>by cases h),?_⟩)),(fun h=>by cases h),?_⟩;simp only[go_sem];exact⟨_,_,⟨rfl,t,l,ht,rfl⟩,rfl,rfl,trivial⟩
end Go.D3
namespace Go.D3
open Go
set_option maxRecDepth 100000
def Ba:List Nat:=[0,1,4,5,6]
def I9:Sl:=ak Go.Proofs.Tryz.types Go.Proofs.Tryz.f19 Ba [(3,4),(9,0),(11,15)]
theorem Rh:aF Go.Proofs.Tryz.prog Go.Proofs.Tryz.f19 Ba I9 2=true:=by decide +kernel
theorem UH(c:List Int)(n:Int)(hc:fq c):bM Go.Proofs.Tryz.prog 19 [ae (D.int .u8) 0 c,.int .u64 n] [] (fun rc gs=>gs=[]/\∃h,rc=bU c 0 h):=by
 unfold bU;refine dN .qC Go.Proofs.Tryz.func19 Rh ?_;unfold I9 ak Ba;simp only[go_sem];refine aE [] (fun(p:Nat×Int)=>[(3,.box [ae (D.int .u8) 0 c,.int .i64 0,.int .u64 p.2]),(4,.int .i64 p.1)]) (fun p=>p.1<=c.length) (fun p=>c.length-p.1) (0,_) (by simp only[go_sem];rfl) (Nat.zero_le _) rfl ?_;rintro⟨i,h⟩ hi;simp only at hi;have hl:=hc.1;simp only[go_sem];refine⟨fun h1=>?_,fun h1=>⟨_,_,⟨rfl,_,rfl⟩,rfl,rfl,trivial⟩⟩;exact⟨h1,(i+1,_),h1,by show c.length-(i+1)<c.length-i;omega,by rw[aM h1 (by simp only[maxLen];omega)]⟩
def A8:List Nat:=[0,1,4,5]
def I7:Sl:=ak Go.Proofs.Tryz.types Go.Proofs.Tryz.f20 A8 []
theorem Re:aF Go.Proofs.Tryz.prog Go.Proofs.Tryz.f20 A8 I7 2=true:=by decide +kernel
theorem UG{c:List Int}(hc:fq c){a:Nat}{h:Int}(ha:a<=c.length)(n:Int):bM Go.Proofs.Tryz.prog 20 [.aw 0 [(0,0)],.int .i64 n] [bU c a h] (Cx c n):=by
 have hl:=hc.1;unfold bU;refine dN .tree Go.Proofs.Tryz.func20 Re ?_;unfold I7 ak A8;simp only[go_sem];obtain⟨m,hm,e1,e2⟩:=CU ((IntKind.u64.wrap (IntKind.u64.wrap (h*6364136223846793005)+1442695040888963407)).fdiv (2 ^ Int.toNat 33));simp only[e1,e2];refine⟨fun h1=>⟨_,_,⟨a,h,0,ha,⟨Int.le_refl _,fun _=>rfl,fun h=>by omega⟩,rfl,rfl⟩,rfl,rfl,rfl,trivial⟩,fun h1=>⟨⟨by decide,by decide⟩,fun h2=>?_,fun h2=>?_⟩⟩
 ·have hb:=hc.2 a h2
  rw[wrap_small (n:=c.getD a 0) (by omega) (by omega),wrap_small (n:=(m:Int)+c.getD a 0) (by omega) (by omega)];exact⟨h2,by omega,_,_,⟨a+1,_,_,h2,vz (by omega) h1,rfl,rfl⟩,rfl,rfl,by rw[aM h2 (by simp only[maxLen];omega)];rfl,trivial⟩
 ·exact⟨by omega,_,_,⟨a,_,_,ha,vz (by omega) h1,rfl,rfl⟩,rfl,rfl,rfl,trivial⟩
def Am:List Nat:=[0,1,2,3,8,9,10,4,11,12,13]
def Ik:Sl:=ak Go.Proofs.Tryz.types Go.Proofs.Tryz.f16 Am []
theorem Qs:aF Go.Proofs.Tryz.prog Go.Proofs.Tryz.f16 Am Ik 4=true:=by decide +kernel
theorem Uf(s:aa)(d e:af)(l:List ah)(hok:s.ok=true)(hd:br s d)(hw:d.dP s=true)(hl:l.length<=40)(ha:af.all s d l=some e)(he:e.dP s=true) :
  aC Go.Proofs.Tryz.prog 16 [.v (aa.d s),.v (ints d.sz),.v (aI d.mp),.v (ae ah.d ah.zero l)] (.au [ints e.sz,aI e.mp,.int .i64 0]):=by
 have hr:s.gK d.sz d.mp=true:=by
  unfold af.dP at hw;rw[Bool.and_eq_true] at hw;exact hw.1
 have haf:=zq s d l hok hd;rw[ha] at haf;simp only[sH,he] at haf;refine aQ Go.Proofs.Tryz.func16 Qs ?_;unfold Ik ak Am;simp only[go_sem];refine av (zp s) rfl (.inl rfl) ?_;rw[hok];simp only[go_sem];refine av (zo s d.sz d.mp (dM hok).1) rfl (.inl rfl) ?_;rw[hr];simp only[go_sem];refine⟨fun h=>absurd h (by omega),fun _=>av haf rfl (.inl (by simp only[D.ba,cB,rk,Bool.and_self])) ?_⟩;simp only[go_sem];have hiw:=HE s d hok;rw[hw] at hiw;refine bt (fun _=>hiw) rfl (fun h=>h) (.inl rfl) ?_;simp only[go_sem]
end Go.D3
namespace Go.D3
open Go
theorem uQ{t:List UInt8}{l:List ah}:dE t l=t++(bu l++(cR (t++bu l)++[10])):=by unfold dE;simp only[List.append_assoc]
theorem Mq{t:List UInt8}{p:aa×Hs}(h:bn t=some p){l:List ah}{d:af}(hg:ca p.1 p.2.last l=some d){cut:Nat}(h1:p.2.gd<=cut)(h2:cut<=(dE (t.take p.2.gd) l).length) :
  bn ((dE (t.take p.2.gd) l).take cut)=some (p.1,if cut=(dE (t.take p.2.gd) l).length then p.2.push d l (dE (t.take p.2.gd) l).length else p.2):=by
 obtain⟨ho,hk⟩:=gJ h;have hgl:=hk.gl;have hT:(t.take p.2.gd).length=p.2.gd:=by rw[List.length_take];omega
 have hc:=fun y hy=>DK (y:=y) h hg hy
 rw[uQ] at h2|-
 generalize bu l++(cR (t.take p.2.gd++bu l)++[10])=z at h2 hc|-
 rw[List.length_append,hT] at h2
 have ht:(t.take p.2.gd++z).take cut=t.take p.2.gd++z.take (cut-p.2.gd):=by
  rw[List.take_append,List.take_of_length_le (by omega),hT]
 have hl:(t.take p.2.gd++z).length=p.2.gd+z.length:=by rw[List.length_append,hT]
 rw[ht,hc _ (List.take_prefix _ _),hl];by_cases hh:cut=p.2.gd+z.length
 ·have e:z.take (cut-p.2.gd)=z:=List.take_of_length_le (by omega)
  rw[e,if_pos rfl,if_pos hh,hl]
 ·rw[if_neg hh,if_neg]
  intro e;have:=congrArg List.length e;rw[List.length_take] at this;omega
theorem Mm(t:List UInt8)(l:List ah){p:aa×Hs}(h:bn t=some p):(∃e:Int,fL t l (bn t)=.au [.str [],.int .i64 e]/\e≠0) \/
  ∃d,fL t l (bn t)=.au [.str (dE (t.take p.2.gd) l),.int .i64 0]/\ca p.1 p.2.last l=some d/\l.length<=40/\(dE (t.take p.2.gd) l).length<=6000:=by
 rw[h];unfold fL;dsimp only;split
 ·exact .inl ⟨2,rfl,by decide⟩
 ·cases hg:ca p.1 p.2.last l with
  | none=>exact .inl ⟨5,rfl,by decide⟩
  | some d =>
   dsimp only;split
   ·exact .inl ⟨3,rfl,by decide⟩
   ·exact .inr ⟨d,rfl,rfl,by omega,by omega⟩
end Go.D3
namespace Go.D3
open Go
set_option maxRecDepth 100000
def Ap:List Nat:=[0,1,4,5,6,7,9,10]
def Io:Sl:=ak Go.Proofs.Tryz.types Go.Proofs.Tryz.f13 Ap [(4,6),(6,35)]
theorem Qv:aF Go.Proofs.Tryz.prog Go.Proofs.Tryz.f13 Ap Io 2=true:=by decide +kernel
theorem T9(t:List UInt8)(l:List ah)(ht:t.length<=1048576):aC Go.Proofs.Tryz.prog 13 [.v (.str t),.v (ae ah.d ah.zero l)] (fL t l (bn t)):=by
 refine aQ Go.Proofs.Tryz.func13 Qv ?_;unfold Io ak Ap;simp only[go_sem];refine av (uY t ht) rfl (.inl (uv _)) ?_;cases hr:bn t with
 | none =>
  simp only[gW];simp only[go_sem];exact⟨fun _=>rfl,fun h=>absurd h (by decide)⟩
 | some p =>
  obtain⟨hok,hH⟩:=gJ hr;have hs:=eA (dM hok).1;have hdl:=hH.dl;have h6:=hH.t6;have hgl:=hH.gl;have hd:=hH.last;have hnow:=HP p.1 p.2.dt p.2.tx p.2.gd (by omega) (by omega);have hafter:=zq p.1 p.2.last l hok hd;rw[CL] at hafter;have hkr:bK (fb 1) [D.aw 0 [(0,0)]]/\bK (fb 1) [.o (.ptr (fy p.1 p.2.dt p.2.tx p.2.gd))]/\(D.agg [.sub 0 [(0,5),(p.2.dt.length-1,0)],.sub 0 [(0,5),(p.2.dt.length-1,1)]]).refs (fb 1):=⟨⟨Nat.zero_lt_one,trivial⟩,⟨trivial,trivial⟩,Nat.zero_lt_one,Nat.zero_lt_one,trivial⟩;simp only[gW];unfold fy at hnow hkr|-
  simp only[go_sem];refine⟨fun h=>absurd h (by decide),fun _=>?_⟩;refine⟨fun h40=>?_,fun h40=>?_⟩
  ·simp only[fL]
   rw[if_pos (by omega)]
  ·with_reducible (repeat' apply And.intro)
   all_goals(
    refine E2 [4] hnow (by decide) ⟨⟨by decide,rfl⟩,trivial⟩ ⟨rfl,trivial⟩ hkr rfl ?_;simp only[go_sem,show sj [4] 0=4 from rfl];refine qE (bs:=[af.d p.2.last,.ptr p.1.cells,ae ah.d ah.zero l]) hafter rfl ⟨.inl rfl,.inr ⟨5,_,rfl,rfl⟩,.inl rfl,trivial⟩ (.inl (by simp only[D.ba,cB,bZ,ff,Bool.and_self])) ?_;simp only[go_sem];refine⟨fun hb=>?_,fun hb=>⟨⟨Nat.zero_le _,hgl⟩,?_⟩⟩
    ·have hg:ca p.1 p.2.last l=none:=by
      unfold ca;cases hda:af.all p.1 p.2.last l with
      | none=>rfl
      | some d =>
       rw[hda] at hb;have hb:d.dP p.1=false:=by simpa[ig] using hb
       rw[Option.bind_some,hb,Bool.and_false];rfl
     simp only[fL,hg];rw[if_neg (by omega)]
    ·obtain⟨d,hda,hw⟩:∃d,af.all p.1 p.2.last l=some d/\d.dP p.1=true:=by
      cases hda:af.all p.1 p.2.last l with
      | none=>rw[hda] at hb;cases hb
      | some d =>
       rw[hda] at hb;exact⟨d,rfl,by simpa[ig] using hb⟩
     have hg:ca p.1 p.2.last l=some d:=by unfold ca;rw[hda,Option.bind_some,hw,decide_eq_true (show l.length<=40 by omega)];rfl
     refine av (HK (t.take p.2.gd) l (by rw[List.length_take];omega) (by omega)) rfl (.inl rfl) ?_;simp only[go_sem];refine⟨fun h6k=>?_,fun h6k=>?_⟩
     ·simp only[fL,hg]
      rw[if_neg (by omega),if_pos (by omega)]
     ·simp only[fL,hg]
      rw[if_neg (by omega),if_neg (by omega)])
end Go.D3
namespace Go.D3
open Go
set_option maxRecDepth 100000
set_option maxHeartbeats 4000000
def A5:List Nat:=[0,2,3,4,5,6,7,8,9,10,11,12,13,14,15,16,17,18,19,20,21,22,23,24,25,26,27,28,29,30,31]
def I4:Sl:=ak Go.Proofs.Tryz.types Go.Proofs.Tryz.f4 A5 [(0,12),(0,15),(0,19),(0,20),(1,19)]
theorem Ra:aF Go.Proofs.Tryz.prog Go.Proofs.Tryz.f4 A5 I4 1=true:=by decide +kernel
theorem UF(c:List Int):aC Go.Proofs.Tryz.prog 4 [.v (ae (D.int .u8) 0 c)] (.bool true):=by
 refine ei fun hw=>?_
 simp only[dc,eW] at hw;refine aQ Go.Proofs.Tryz.func4 Ra ?_;unfold I4 ak A5;simp only[go_sem];refine av (HN c) rfl (.inl rfl) ?_;simp only[go_sem];intro hb
 have hc:fq c:=⟨by omega,fun i hi=>by
  have h1:IntKind.u8.has (c.getD i 0):=hw.1.2 (c.getD i 0) (by rw[aS hi];exact List.getElem_mem _);have h2:=h1.1;have h3:=h1.2;simp[IntKind.min,IntKind.max,IntKind.signed,IntKind.bits] at h2 h3;rw[List.getD_eq_getElem?_getD]
  omega⟩
 refine bf [] false (UM hc) ?_;rintro _ _ ⟨rfl,t,l,ht,rfl⟩;refine⟨(by repeat(first | exact trivial | refine⟨(fun h=>by cases h),?_⟩)),(fun h=>by cases h),?_⟩;simp only[go_sem];have hci:=T9 t l (by omega);have hcs:=HQ t l (by omega);have hrd:=fun u hu=>Hz u hu
 cases hr:bn t with
 | none =>
  rw[hr] at hci hcs;simp only[fL] at hci hcs;refine av hci rfl (.inl rfl) ?_;simp only[go_sem];refine av hcs rfl (.inl rfl) ?_;simp only[go_sem];exact⟨by decide,by decide,fun _ h=>absurd h (by decide)⟩
 | some p =>
  obtain⟨hok,hH⟩:=gJ hr;have hs:=eA (dM hok).1;have hdl:=hH.dl;have h6:=hH.t6;have hgl:=hH.gl;have hwh:=Fc hr;have hr1:=hrd t (by omega);rw[hr] at hr1;simp only[oy] at hr1;rcases Mm t l hr with⟨e,hce,he⟩ | ⟨d,hce,hg,hl40,h6k⟩
  ·rw[hce] at hci hcs
   refine av hci rfl (.inl rfl) ?_;simp only[go_sem];refine av hcs rfl (.inl rfl) ?_;simp only[go_sem];exact⟨fun h=>by rw[h];rfl,fun h=>by simp at h,fun _ h=>absurd (by simpa using h) he⟩
  ·rw[hce] at hci hcs
   have hcut:=fun cut h1 h2=>Mq hr hg (cut:=cut) h1 h2
   obtain⟨hda,-,hdw⟩:=pq hg;have hfull:=hcut _ (by have:=uQ (t:=t.take p.2.gd) (l:=l);rw[this,List.length_append,List.length_take];omega) (Nat.le_refl _);rw[List.take_length,if_pos rfl] at hfull;have hT:(t.take p.2.gd).length=p.2.gd:=by rw[List.length_take];omega
   have hlt:p.2.gd<(dE (t.take p.2.gd) l).length:=by rw[uQ];simp only[List.length_append,hT,List.length_cons,List.length_nil];omega
   have htk:(dE (t.take p.2.gd) l).take p.2.gd=t.take p.2.gd:=by rw[uQ,List.take_append_of_le_length (by omega),List.take_of_length_le (by omega)]
   generalize dE (t.take p.2.gd) l=u at *;refine av hci rfl (.inl rfl) ?_;simp only[go_sem];refine av hcs rfl (.inl rfl) ?_;simp only[go_sem];have hr2:=hrd u (by omega);rw[hfull] at hr2;simp only[oy,GV] at hr2;have hpt:(p.2.push d l u.length).tx.length=p.2.tx.length+1:=by unfold Hs.push;simp
   have hpg:(p.2.push d l u.length).gd=u.length:=rfl;rw[hpt,hpg] at hr2;refine⟨by decide,fun h=>by simp at h,fun _=>⟨fun h=>absurd h (by decide),fun _=>?_⟩⟩;refine av hr1 rfl (.inl (by simp only[D.ba,cB,bZ,ff,Bool.and_self])) ?_;simp only[go_sem];refine av hr2 rfl (.inl (by simp only[D.ba,cB,bZ,ff,Bool.and_self])) ?_;simp only[go_sem];have w0:IntKind.i64.wrap (0+0)=0:=by decide
   rw[w0,aM (i:=p.2.tx.length) (n:=p.2.tx.length+1) (by omega) (by simp only[maxLen];omega)];refine⟨by decide,fun _=>by simp,fun _=>by simp,fun _=>by simp<;>omega,fun _=>by simp<;>omega,fun h=>⟨h,by omega,by omega⟩,fun h=>⟨h,by omega,by omega⟩,fun _=>by simp<;>omega,fun h=>(by rw[htk] at h;simp at h;omega),fun _=>?_⟩;have hjs:=Hx t (by omega);rw[Ht hr] at hjs;unfold xI at hjs;refine en [] false hjs ?_;simp only[go_sem];refine av (Uf p.1 p.2.last d l hok hH.last hwh hl40 hda hdw) rfl (.inl (by simp only[D.ba,cB,bZ,ff,Bool.and_self])) ?_;simp only[go_sem];rw[w0];refine bt (fun _=>pW _ _) rfl (fun h=>h) (.inl rfl) ?_;simp only[go_sem];refine⟨fun _=>by simp,bt (fun _=>rN _ _) rfl (fun h=>h) (.inl rfl) ?_⟩;simp only[go_sem];refine⟨fun _=>by simp,fun h=>by simp at h,fun _=>?_⟩;refine bf [] false (UH c 18 hc) ?_;rintro _ _ ⟨rfl,h,rfl⟩;refine⟨(by repeat(first | exact trivial | refine⟨(fun h=>by cases h),?_⟩)),(fun h=>by cases h),?_⟩;unfold bU;simp only[go_sem];refine aE [25,26,27,28,29,30] (fun(q:Nat×Nat×Int)=>[(23,bU c q.2.1 q.2.2),(24,.int .i64 q.1)]) (fun q=>q.1<=4/\q.2.1<=c.length) (fun q=>4-q.1) (0,0,h) (by simp only[go_sem];rfl) ⟨Nat.zero_le _,Nat.zero_le _⟩ rfl ?_;rintro⟨k,a,h⟩ ⟨hk,ha⟩;simp only at hk ha;simp only[go_sem];intro h1;rw[wrap_small (n:=(u.length:Int)-p.2.gd) (by omega) (by omega),wrap_small (n:=(u.length:Int)-p.2.gd+1) (by omega) (by omega)];refine bf [23] false (UG hc ha _) ?_;rintro _ _ ⟨a,h,x,ha,⟨x0,-,x2⟩,rfl,rfl⟩;have x2:=x2 (by omega);refine⟨(by repeat(first | exact trivial | refine⟨(fun h=>by cases h),?_⟩)),(fun h=>by cases h),?_⟩;simp only[go_sem];obtain⟨cut,hcu⟩:∃n:Nat,(p.2.gd:Int)+x=n:=⟨p.2.gd+x.toNat,by omega⟩;rw[wrap_small (n:=(p.2.gd:Int)+x) (by omega) (by omega),hcu];have hr3:=hrd (u.take cut) (by rw[List.length_take];omega);rw[hcut cut (by omega) (by omega)] at hr3
   refine⟨⟨Int.natCast_nonneg _,by omega⟩,?_⟩;rw[Int.toNat_natCast];by_cases hcl:cut=u.length
   ·subst hcl
    rw[if_pos rfl] at hr3;simp only[oy,GV,hpt,hpg] at hr3;refine av hr3 rfl (.inl (by simp only[D.ba,cB,bZ,ff,Bool.and_self])) ?_;simp only[go_sem];refine⟨fun h=>absurd h (by decide),fun _=>⟨?_,fun h=>by simp at h⟩⟩;refine⟨fun _=>by simp,bt (fun _=>pW _ _) rfl (fun h=>h) (.inl rfl) ?_⟩;simp only[go_sem];refine⟨fun _=>by simp,bt (fun _=>rN _ _) rfl (fun h=>h) (.inl rfl) ?_⟩;simp only[go_sem];refine⟨fun _=>by simp,fun h=>by simp at h,fun _=>⟨(k+1,a,h),⟨by show k+1<=4;omega,ha⟩,by show 4-(k+1)<4-k;omega,by rw[Cq (by omega)]⟩⟩
   ·rw[if_neg hcl] at hr3
    simp only[oy] at hr3;refine av hr3 rfl (.inl (by simp only[D.ba,cB,bZ,ff,Bool.and_self])) ?_;simp only[go_sem];refine⟨fun h=>absurd h (by decide),fun _=>⟨fun h=>absurd h (by omega),fun _=>?_⟩⟩;refine⟨fun _=>by simp,bt (fun _=>pW _ _) rfl (fun h=>h) (.inl rfl) ?_⟩;simp only[go_sem];refine⟨fun _=>by simp,bt (fun _=>rN _ _) rfl (fun h=>h) (.inl rfl) ?_⟩;simp only[go_sem];refine⟨fun _=>by simp,fun h=>by simp at h,fun _=>⟨(k+1,a,h),⟨by show k+1<=4;omega,ha⟩,by show 4-(k+1)<4-k;omega,by rw[Cq (by omega)]⟩⟩
end Go.D3
namespace Go.Proofs.YtpjbamibcngihaaGreatDoor
open Go
namespace fnCrashes
theorem own:ownKnob Go.Proofs.Tryz.prog.godebug=none:=by kernel_rfl
theorem laid:laidOutB Go.Proofs.Tryz.prog=true:=by kernel_rfl
theorem dK:(D3.Ty.cons (.sl (.int .u8)) .nil).e8 Go.Proofs.Tryz.prog Go.Proofs.Tryz.f4.params.toList=true:=by kernel_rfl
theorem res:Go.Proofs.Tryz.f4.resultTypes=#[4]:=by kernel_rfl
theorem tb:Go.Proofs.Tryz.prog.underlying 4=some .bool:=by kernel_rfl
theorem np:Go.Proofs.Tryz.f4.params.size=1:=by kernel_rfl
set_option maxRecDepth 100000 in
theorem lifted(hR:∀c:List Int,D3.aC Go.Proofs.Tryz.prog 4 [.v (D3.ae (D3.D.int .u8) 0 c)] (.bool true))(os:Os)(started:os.Started)(H:Type)(enc:TypeId×Value->H)(F:Stop.Interp) :
  ReturnsInHanded {} Go.Proofs.Tryz.checked os 4 .any ((OpenSpec.ofChange Rows.fnCrashesSpec).preRow enc Go.Proofs.Tryz.prog Go.Proofs.Tryz.f4 Rows.fnCrashesRow.domain false Rows.fnCrashesRow.laid) (((OpenSpec.ofChange Rows.fnCrashesSpec).at F).post enc Go.Proofs.Tryz.prog Go.Proofs.Tryz.f4 false true false false):=by
 refine returnsInHanded_of_row (C:=Go.Proofs.Tryz.checked) (s:=OpenSpec.ofChange Rows.fnCrashesSpec) own started (by kernel_rfl) Go.Proofs.Tryz.func4
  (ChangeSpec.witness_shaped (enc:=enc) (C:=Go.Proofs.Tryz.checked) (os:=os) (s:=Rows.fnCrashesSpec) (conds:=Rows.fnCrashesRow.domain) (X:=fun w _=>laidMetH Go.Proofs.Tryz.prog Rows.fnCrashesRow.laid w) false (World.laidAll Go.Proofs.Tryz.prog os Rows.fnCrashesRow.laid) #[.slice none 0 0] 8 (World.laidAll_os _ _ _)
    (World.shaped_of_ZipB (by kernel_rfl) (by kernel_rfl)) (by kernel_rfl) (by kernel_rfl) (by kernel_rfl)
    (by rw[MakeChecks.laidMetH_plain _ _ _ (by kernel_rfl)];exact laidMet_laidAll _ (by kernel_rfl) (by kernel_rfl))) ?_
 intro W base args ds gs before hval hW _ _ _ hL hS _;obtain⟨ms,hms⟩:=D3.Ej;obtain⟨hG,x,hx,ix⟩:=D3.M7 hL hS;refine D3.N0 (ty:=.cons (.sl (.int .u8)) .nil) (s:=Rows.fnCrashesSpec) rfl D3.tc D3.Ei hms hx ix res tb laid dK (fun ds e hd=>?_) (fun y=>?_) hG hval hW
 ·rw[np] at hd
  match ds,hd with
  | [d],_=>rfl
 ·exact hR y.1
theorem said(hR:∀c:List Int,D3.aC Go.Proofs.Tryz.prog 4 [.v (D3.ae (D3.D.int .u8) 0 c)] (.bool true)):Rows.FnCrashesSaid :=
 OpenClaim.holds_of_cond 4 Go.Proofs.Tryz.f4 rfl rfl rfl rfl rfl rfl rfl ⟨rfl,rfl,rfl,rfl,rfl⟩ rfl rfl rfl rfl rfl (by kernel_rfl) Go.Proofs.Tryz.func4 (by kernel_rfl)
  (of_decide_eq_true (by kernel_rfl)) (by unfold Func.isWrapper;first | (rw[if_pos (by decide +kernel)];kernel_rfl) | (rw[if_neg (by decide +kernel)];exact⟨rfl,rfl⟩))
  (fun os started H enc _ F=>by rw[OpenClaim.pre_eq_preRow];exact lifted hR os started H enc F)
theorem plain(f:FuncId)(fn:Func)(hf:Tryz.pinned.checked.prog.funcNamed Rows.fnCrashesRow.func=some f)(hfn:Tryz.pinned.checked.prog.funcs[f]?=some fn) :
  true=Tryz.pinned.checked.prog.looks []/\∀(j:Nat) t,fn.params[j]?=some t->Tryz.pinned.checked.prog.wantsStandIn t=false:=by
 obtain rfl:f=4:=Option.some.inj ((show Go.Proofs.Tryz.prog.funcNamed Rows.fnCrashesRow.func=some 4 by kernel_rfl).symm.trans hf) |>.symm;obtain rfl:fn=Go.Proofs.Tryz.f4:=(Option.some.inj (Go.Proofs.Tryz.func4.symm.trans hfn)).symm;refine⟨by kernel_rfl,fun j t ht=>?_⟩;have hm:t∈Go.Proofs.Tryz.f4.params:=Array.mem_of_getElem? ht;have hall:(Go.Proofs.Tryz.f4.params.toList.all fun u=>!Go.Proofs.Tryz.prog.wantsStandIn u)=true:=by kernel_rfl
 exact(show Go.Proofs.Tryz.prog.wantsStandIn t=false by simpa using List.all_eq_true.1 hall t (by simpa using hm))
theorem L4(hR:∀c:List Int,D3.aC Go.Proofs.Tryz.prog 4 [.v (D3.ae (D3.D.int .u8) 0 c)] (.bool true)):Rows.FnCrashesCardSaid :=
 Claim7.holds_tied_plain_at .later [] _ _ _ _ (said hR) (fun _ h=>by cases h) (by kernel_rfl) (fun _ h=>by cases h) fnCrashes_row_tie rfl ⟨rfl,rfl⟩ (by kernel_rfl) rfl plain (by kernel_rfl)
end fnCrashes
end Go.Proofs.YtpjbamibcngihaaGreatDoor
namespace Go.Proofs.YtpjbamibcngihaaGreatDoor
open Go
theorem fnCrashes_proved:Rows.FnCrashesCardSaid:=fnCrashes.L4 D3.UF
#print axioms fnCrashes_proved
end Go.Proofs.YtpjbamibcngihaaGreatDoor
