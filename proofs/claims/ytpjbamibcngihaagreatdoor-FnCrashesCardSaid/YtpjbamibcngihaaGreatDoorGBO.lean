/- CONTRACTS: drawn transactions. -/
import Derived.Test.YtpjbamibcngihaaGreatDoorGBH
import Derived.Test.YtpjbamibcngihaaGreatDoorGBM
import Derived.Test.YtpjbamibcngihaaGreatDoorGBN
namespace Go.D3
open Go
set_option maxHeartbeats 4000000
set_option maxRecDepth 100000
def Cv(cc:List Int)(rc:D)(gs:List D):Prop:=∃(a:Nat)(h:Int)(l:List ah),a<=cc.length/\rc=.o (ae ah.d ah.zero l)/\gs=[bU cc a h]
def B8:List Nat:=[0,1,2,6,4,5,7,8,9,10,11,12,13,14,15]
def J6:Sl:=ak Go.Proofs.Tryz.types Go.Proofs.Tryz.f62 B8 [(0,29),(0,61),(0,88),(0,89),(0,90)]
theorem Sq:aF Go.Proofs.Tryz.prog Go.Proofs.Tryz.f62 B8 J6 3=true:=by decide +kernel
theorem H5{cc:List Int}(hcc:fq cc){a:Nat}{h:Int}(ha:a<=cc.length)(s:aa)(d:af)(hok:s.ok=true)(hs:cQ s)(hd:br s d):bM Go.Proofs.Tryz.prog 62 [.aw 0 [(0,0)],aa.d s,af.d d] [bU cc a h] (Cv cc):=by
 have hf8:=hs.f8;have hto:=hs.to;have hn8:=hs.n8;have hn0:=hs.n0;have hmp:=hd.mp;have hnd:=hd.nd;refine dN .tree Go.Proofs.Tryz.func62 Sq ?_;unfold J6 ak B8;simp only[go_sem];refine bf [] false (bM.view (Q:=fun l=>∃(x:ea)(M:List (Option U))(ok:Bool),l=[x.dX (ae jM none M),.bool ok]/\(ok=true->qp s x)) (Ve s hok)) ?_;rintro _ _ ⟨rfl,_,rfl,x,M,ok,rfl,hx⟩;refine⟨(by repeat(first | exact trivial | refine⟨(fun h=>by cases h),?_⟩)),(fun h=>by cases h),?_⟩;unfold ea.dX;simp only[go_sem];refine⟨fun h1=>?q1,fun h1=>?q2⟩
 case' q1 =>
  simp only[Bool.and_eq_true,decide_eq_true_eq] at h1;have hx:=hx h1.1;have hxo:=hx.ob
  with_reducible (repeat' apply And.intro)
  all_goals
   refine bf [15] false (dG hcc ha s.nd) ?_;rintro _ _ ⟨a,h,o,ha,-,rfl,rfl⟩;refine⟨(by repeat(first | exact trivial | refine⟨(fun h=>by cases h),?_⟩)),(fun h=>by cases h),?_⟩;simp only[go_sem];refine bf [] true (HW x.c [o] hx.sh (by show 1<=3;decide)) ?_;rintro _ _ ⟨rfl,f,rfl,hf⟩;refine⟨(by repeat(first | exact trivial | refine⟨(fun h=>by cases h),?_⟩)),(fun _=>⟨yg f,rfl⟩),?_⟩;simp only[go_sem];refine bf [15] false (dG hcc ha 3) ?_;rintro _ _ ⟨a,h,o2,ha,-,rfl,rfl⟩;refine⟨(by repeat(first | exact trivial | refine⟨(fun h=>by cases h),?_⟩)),(fun h=>by cases h),?_⟩;simp only[go_sem];refine⟨fun h2=>?_,fun h2=>?_⟩
   case' refine_1 =>
    refine bf [15] false (U6 hcc ha x.c hx.sh) ?_;rintro _ _ ⟨a,h,f,ha,hf,rfl,rfl⟩;refine⟨(by repeat(first | exact trivial | refine⟨(fun h=>by cases h),?_⟩)),(fun h=>by cases h),?_⟩;have hf:=hf.le (m:=120) (fun x hx=>by have:=(hf.sz x hx).2;omega);simp only[go_sem]
  all_goals
   have hfs:=hf.bw;obtain⟨c,sz,act⟩:=f;obtain rfl:c=x.c:=hfs;have hszl:=hf.r9;have hsz:=hf.sz;simp only at hszl hsz;simp only[go_sem];refine aE [11] (fun(p:Nat×List ah)=>[(6,.o (ae ah.d ah.zero p.2)),(10,.int .i64 p.1)]) (fun p=>p.1<=sz.length/\p.2.length<=120*p.1) (fun p=>sz.length-p.1) (0,[]) (by simp only[go_sem];rfl) ⟨Nat.zero_le _,Nat.zero_le _⟩ rfl ?_;rintro⟨y,out⟩ ⟨hy,cW⟩;simp only at hy cW;simp only[go_sem];refine⟨fun h3=>?_,fun h3=>?_⟩
   case' refine_1 =>
    have hs1:=hsz y h3;refine aE [] (fun(p:Nat×List ah)=>[(6,.o (ae ah.d ah.zero p.2)),(11,.int .i64 p.1)]) (fun p=>(p.1:Int)<=sz.getD y 0/\p.2.length<=120*y+p.1) (fun p=>(sz.getD y 0).toNat-p.1) (0,out) (by simp only[go_sem];rfl) ⟨hs1.1,cW⟩ rfl ?_;rintro⟨r,out⟩ ⟨hr,cW⟩;simp only at hr cW;simp only[go_sem];exact⟨h3,fun h4=>⟨by omega,(r+1,out++[⟨1,y,0,0⟩]),⟨by simp only;omega,by simp only[List.length_append,List.length_singleton];omega⟩,by simp only;omega,by rw[aM (i:=r) (n:=(sz.getD y 0).toNat) (by omega) (by simp only[maxLen];omega)]⟩,fun h4=>⟨(y+1,out),⟨h3,by simp only;omega⟩,by simp only;omega,by rw[aM h3 (by simp only[maxLen];omega)]⟩⟩
   case' refine_2 =>
    refine aE [13] (fun(p:Nat×List ah)=>[(6,.o (ae ah.d ah.zero p.2)),(12,.int .i64 p.1)]) (fun p=>p.1<=s.fr.length/\p.2.length<=960+120*p.1) (fun p=>s.fr.length-p.1) (0,out) (by simp only[go_sem];rfl) ⟨Nat.zero_le _,by simp only;omega⟩ rfl ?_;clear hy cW;rintro⟨k,out⟩ ⟨hk,cW⟩;simp only at hk cW;simp only[go_sem];refine⟨fun h4=>?_,fun h4=>?_⟩
    case' refine_1 =>
     have hF:=ew hs.fr h4;have hT:=ew hs.qe (i:=k) (by omega);have hed:=hx.ed;have hal:=hf.al;obtain⟨a0,a1,a2,a3⟩:=hx.ar k h4;obtain⟨e,he⟩:∃e:Nat,x.ed.getD k 0=e:=⟨(x.ed.getD k 0).toNat,by omega⟩;have hrw:=hf.row e (by omega);rw[he,Int.toNat_natCast] at a2;rw[a2] at hrw;obtain⟨z,hz⟩:∃z:Nat,s.fr.getD k 0=z:=⟨(s.fr.getD k 0).toNat,by omega⟩;have hs1:=hsz z (by omega);simp only[hz,Int.toNat_natCast] at hrw|-
     refine aE [] (fun(p:Nat×List ah)=>[(6,.o (ae ah.d ah.zero p.2)),(13,.int .i64 p.1)]) (fun p=>(p.1:Int)<=sz.getD z 0/\p.2.length<=960+120*k+p.1) (fun p=>(sz.getD z 0).toNat-p.1) (0,out) (by simp only[go_sem];rfl) ⟨hs1.1,cW⟩ rfl ?_;rintro⟨r,out⟩ ⟨hr,cW⟩;simp only at hr cW;simp only[go_sem];simp only[hz,he,Int.toNat_natCast];simp only at hal;refine⟨h4,by omega,fun h5=>⟨h4,by omega,by omega,by omega,by omega,by omega,by omega,by omega,(r+1,out++[_]),⟨by simp only;omega,by simp only[List.length_append,List.length_singleton];omega⟩,by simp only;omega,by rw[aM (i:=r) (n:=(sz.getD z 0).toNat) (by omega) (by simp only[maxLen];omega)]⟩,fun h5=>⟨(k+1,out),⟨h4,by simp only;omega⟩,by simp only;omega,by rw[aM h4 (by simp only[maxLen];omega)]⟩⟩
    case' refine_2 =>
     refine⟨fun _=>⟨_,_,⟨a,h,out,ha,rfl,rfl⟩,rfl,rfl,rfl,trivial⟩,fun _=>?_⟩
 all_goals
  refine bf [15] false (dG hcc ha 3) ?_;rintro _ _ ⟨a,h,j,ha,⟨j0,-,j4⟩,rfl,rfl⟩;refine⟨(by repeat(first | exact trivial | refine⟨(fun h=>by cases h),?_⟩)),(fun h=>by cases h),?_⟩;have j5:=j4 (by decide);obtain⟨j,rfl⟩:∃n:Nat,j=n:=⟨j.toNat,by omega⟩;simp only[go_sem];refine aE [] (fun(p:Nat×List ah×Nat×Int)=>[(6,.o (ae ah.d ah.zero p.2.1)),(14,.int .i64 p.1),(15,bU cc p.2.2.1 p.2.2.2)]) (fun p=>p.2.1.length+p.1<=3/\p.2.2.1<=cc.length) (fun p=>p.1) (j,[],a,h) (by simp only[go_sem];rfl) ⟨by simp only[List.length_nil];omega,ha⟩ rfl ?_;rintro⟨j,out,a,h⟩ ⟨hj,ha⟩;simp only at hj ha;simp only[go_sem];refine⟨fun h8=>?_,fun h8=>⟨_,_,⟨a,h,out,ha,rfl,rfl⟩,rfl,rfl,rfl,trivial⟩⟩;refine bf [15] false (u6 hcc ha s d hs hd) ?_;rintro _ _ ⟨a,h,c,ha,rfl,rfl⟩;refine⟨(by repeat(first | exact trivial | refine⟨(fun h=>by cases h),?_⟩)),(fun h=>by cases h),?_⟩;simp only[go_sem];exact⟨by omega,(j-1,out++[c],a,h),⟨by simp only[List.length_append,List.length_singleton];omega,ha⟩,by simp only;omega,by rw[wrap_small (n:=(j:Int)-1) (by omega) (by omega),show(j:Int)-1=((j-1:Nat):Int) by omega]⟩
end Go.D3
