/- CONTRACTS: sources of draws. -/
import Derived.Test.YtpjbamibcngihaaGreatDoorProg
import Derived.Test.YtpjbamibcngihaaGreatDoorHG
namespace Go.D3
open Go
set_option maxHeartbeats 4000000
set_option maxRecDepth 100000
theorem Pb{α:Type}{f:α->D}{d:α}{l:List α}{dn r:List D}{K:List D->St->Prop}{st:St}:gn dn (ae f d l::r) K st=gn (dn++[ae f d l]) r K st:=by
 show((ae f d l).pc=true/\_)=_;rw[FB];simp
attribute [go_sem ↓] Pb
theorem Oy{α:Type}{f:α->D}{d:α}{l:List α}{k:Nat}{p:Path}:o8 k p (ae f d l)=ae f d l:=rfl
attribute [go_sem] Oy
def bU(c:List Int)(a:Nat)(h:Int):D:=.box [ae (D.int .u8) 0 c,.int .i64 a,.int .u64 h]
def fq(c:List Int):Prop:=c.length<=4096/\∀i,i<c.length->0<=c.getD i 0/\c.getD i 0<256
def Bo:List Nat:=[0,2,3,4]
def Jm:Sl:=ak Go.Proofs.Tryz.types Go.Proofs.Tryz.f26 Bo [(3,2),(9,0),(11,11)]
theorem Ru:aF Go.Proofs.Tryz.prog Go.Proofs.Tryz.f26 Bo Jm 1=true:=by decide +kernel
theorem HS(c:List Int)(hc:fq c):bM Go.Proofs.Tryz.prog 26 [ae (D.int .u8) 0 c] [] (fun rc gs=>gs=[]/\∃h,rc=bU c 0 h):=by
 unfold bU;refine dN .qC Go.Proofs.Tryz.func26 Ru ?_;unfold Jm ak Bo;simp only[go_sem];refine aE [] (fun(p:Nat×Int)=>[(2,.box [ae (D.int .u8) 0 c,.int .i64 0,.int .u64 p.2]),(3,.int .i64 p.1)]) (fun p=>p.1<=c.length) (fun p=>c.length-p.1) (0,_) (by simp only[go_sem];rfl) (Nat.zero_le _) rfl ?_;rintro⟨i,h⟩ hi;simp only at hi;have hl:=hc.1;simp only[go_sem];refine⟨fun h1=>?_,fun h1=>⟨_,_,⟨rfl,_,rfl⟩,rfl,rfl,trivial⟩⟩;simp only[Bool.and_eq_true,decide_eq_true_eq] at h1;exact⟨h1.1,(i+1,_),h1.1,by show c.length-(i+1)<c.length-i;omega,by rw[aM h1.1 (by simp only[maxLen];omega)]⟩
theorem Wt{q:D->Bool}{c:List Int}{a:Nat}{h:Int}:(bU c a h).kill q=bU c a h:=rfl
theorem Wv{σ:Nat->Nat}{c:List Int}{a:Nat}{h:Int}:(bU c a h).ax σ=bU c a h:=rfl
theorem Wu{k:Nat}{c:List Int}{a:Nat}{h:Int}:cu k (bU c a h)=.aw k [(0,0)]:=rfl
attribute [go_sem] Wt Wv Wu
theorem Ww{c c':List Int}{a a':Nat}{h h':Int}:rX (bU c a h) (bU c' a' h')=true:=rfl
attribute [go_sem] Ww
theorem CU(x:Int):∃m:Nat,m<=16777215/\wi .u64 x 16777215=m/\IntKind.i64.wrap m=m:=by
 unfold wi
 have h:(BitVec.ofInt IntKind.u64.bits x &&& BitVec.ofInt IntKind.u64.bits 16777215).toNat<=16777215:=by
  rw[BitVec.toNat_and];exact Nat.le_trans Nat.and_le_right (by decide)
 generalize(BitVec.ofInt IntKind.u64.bits x &&& BitVec.ofInt IntKind.u64.bits 16777215).toNat=m at h|-
 refine⟨m,h,iH ⟨?_,?_⟩,wrap_small (by omega) (by omega)⟩
 ·simp[IntKind.min,IntKind.signed]
 ·simp[IntKind.max,IntKind.signed,IntKind.bits];omega
theorem vz{x n:Int}(h0 : 0<=x)(hn:¬n<1) : 0<=x.tmod n/\(n<1->x.tmod n=0)/\(1<=n->x.tmod n<n) :=
 ⟨Int.tmod_nonneg n h0,fun h=>absurd h hn,fun h=>Int.tmod_lt_of_pos x (by omega)⟩
def Cx(c:List Int)(n:Int)(rc:D)(gs:List D):Prop:=∃(a:Nat)(h x:Int),a<=c.length/\(0<=x/\(n<1->x=0)/\(1<=n->x<n))/\rc=.int .i64 x/\gs=[bU c a h]
def Bv:List Nat:=[0,1,4,5]
def Jt:Sl:=ak Go.Proofs.Tryz.types Go.Proofs.Tryz.f29 Bv []
theorem RB:aF Go.Proofs.Tryz.prog Go.Proofs.Tryz.f29 Bv Jt 2=true:=by decide +kernel
theorem dG{c:List Int}(hc:fq c){a:Nat}{h:Int}(ha:a<=c.length)(n:Int):bM Go.Proofs.Tryz.prog 29 [.aw 0 [(0,0)],.int .i64 n] [bU c a h] (Cx c n):=by
 have hl:=hc.1;unfold bU;refine dN .tree Go.Proofs.Tryz.func29 RB ?_;unfold Jt ak Bv;simp only[go_sem];obtain⟨m,hm,e1,e2⟩:=CU ((IntKind.u64.wrap (IntKind.u64.wrap (h*6364136223846793005)+1442695040888963407)).fdiv (2 ^ Int.toNat 33));simp only[e1,e2];refine⟨fun h1=>⟨_,_,⟨a,h,0,ha,⟨Int.le_refl _,fun _=>rfl,fun h=>by omega⟩,rfl,rfl⟩,rfl,rfl,rfl,trivial⟩,fun h1=>⟨⟨by decide,by decide⟩,fun h2=>?_,fun h2=>?_⟩⟩
 ·have hb:=hc.2 a h2
  rw[wrap_small (n:=c.getD a 0) (by omega) (by omega),wrap_small (n:=(m:Int)+c.getD a 0) (by omega) (by omega)];exact⟨h2,by omega,_,_,⟨a+1,_,_,h2,vz (by omega) h1,rfl,rfl⟩,rfl,rfl,by rw[aM h2 (by simp only[maxLen];omega)];rfl,trivial⟩
 ·exact⟨by omega,_,_,⟨a,_,_,ha,vz (by omega) h1,rfl,rfl⟩,rfl,rfl,rfl,trivial⟩
def Lk(c l:List Int)(rc:D)(gs:List D):Prop:=∃(a:Nat)(h:Int)(k:Nat),a<=c.length/\k<l.length/\rc=.int .i64 (l.getD k 0)/\gs=[bU c a h,.o (ints l)]
def Bz:List Nat:=[0,1,4]
def Jx:Sl:=ak Go.Proofs.Tryz.types Go.Proofs.Tryz.f58 Bz [(0,29)]
theorem RF:aF Go.Proofs.Tryz.prog Go.Proofs.Tryz.f58 Bz Jx 2=true:=by decide +kernel
theorem UX{c:List Int}(hc:fq c){a:Nat}{h:Int}(ha:a<=c.length)(l:List Int)(hl : 0<l.length):bM Go.Proofs.Tryz.prog 58 [.aw 0 [(0,0)],.sub 1 []] [bU c a h,.o (ints l)] (Lk c l):=by
 refine dN .tree Go.Proofs.Tryz.func58 RF ?_;unfold Jx ak Bz;simp only[go_sem];refine bf [3] false (dG hc ha l.length) ?_;rintro _ _ ⟨a',h',x,ha',⟨x0,-,x1⟩,rfl,rfl⟩;refine⟨(by repeat(first | exact trivial | refine⟨(fun h=>by cases h),?_⟩)),(fun h=>by cases h),?_⟩;simp only[go_sem];obtain⟨k,rfl⟩:∃k:Nat,x=k:=⟨x.toNat,by omega⟩;simp only[Int.toNat_natCast];exact⟨⟨by omega,by omega⟩,_,_,⟨a',h',k,ha',by omega,rfl,rfl⟩,rfl,rfl,rfl,rfl,trivial⟩
def Ld(c:List Int)(rc:D)(gs:List D):Prop:=∃(a:Nat)(h x:Int),a<=c.length/\rc=.int .i64 x/\gs=[bU c a h]
def BG:List Nat:=[0,1,4]
def JE:Sl:=ak Go.Proofs.Tryz.types Go.Proofs.Tryz.f30 BG [(0,29),(0,58)]
theorem RO:aF Go.Proofs.Tryz.prog Go.Proofs.Tryz.f30 BG JE 2=true:=by decide +kernel
theorem zt{c:List Int}(hc:fq c){a:Nat}{h:Int}(ha:a<=c.length)(n:Int):bM Go.Proofs.Tryz.prog 30 [.aw 0 [(0,0)],.int .i64 n] [bU c a h] (Ld c):=by
 refine dN .tree Go.Proofs.Tryz.func30 RO ?_;unfold JE ak BG;simp only[go_sem];refine bf [3] false (dG hc ha 40) ?_;rintro _ _ ⟨a1,h1,x1,ha1,-,rfl,rfl⟩;refine⟨(by repeat(first | exact trivial | refine⟨(fun h=>by cases h),?_⟩)),(fun h=>by cases h),?_⟩;simp only[go_sem];refine⟨fun _=>?_,fun _=>?_⟩
 ·refine bf [3,1002] false (UX hc ha1 [-1,n,9223372036854775807,-9223372036854775808] (Nat.zero_lt_succ _)) ?_
  rintro _ _ ⟨a2,h2,k,ha2,_,rfl,rfl⟩;refine⟨(by repeat(first | exact trivial | refine⟨(fun h=>by cases h),?_⟩)),(fun h=>by cases h),?_⟩;simp only[go_sem];exact⟨_,_,⟨a2,h2,_,ha2,rfl,rfl⟩,rfl,rfl,rfl,trivial⟩
 ·refine bf [3] false (dG hc ha1 n) ?_
  rintro _ _ ⟨a2,h2,x,ha2,_,rfl,rfl⟩;refine⟨(by repeat(first | exact trivial | refine⟨(fun h=>by cases h),?_⟩)),(fun h=>by cases h),?_⟩;simp only[go_sem];exact⟨_,_,⟨a2,h2,_,ha2,rfl,rfl⟩,rfl,rfl,rfl,trivial⟩
def vV(c:List Int)(b:Nat)(rc:D)(gs:List D):Prop:=∃(a:Nat)(h:Int)(t:List UInt8),a<=c.length/\t.length<=b/\rc=.str t/\gs=[bU c a h]
theorem EC{L:List (List UInt8)}{b:Nat}(h:L.all fun x=>decide (x.length<=b))(k:Nat):(L.getD k []).length<=b:=by
 by_cases hk:k<L.length
 ·rw[aS hk]
  have:=List.all_eq_true.1 h _ (List.getElem_mem hk);simpa using this
 ·rw[List.getD_eq_getElem?_getD,List.getElem?_eq_none (by omega)];exact Nat.zero_le _
theorem Ad{s:List UInt8}:(D.str s).cells=[D.str s]:=rfl
theorem Ae{L:List (List UInt8)}{k:Nat}:(L.map D.str).getD k (.str [])=.str (L.getD k []):=getD_map' _ _ _ _
def Bl:List Nat:=[0,1,4,5,6,25]
def Jk:Sl:=ak Go.Proofs.Tryz.types Go.Proofs.Tryz.f52 Bl [(0,29)]
theorem Rs:aF Go.Proofs.Tryz.prog Go.Proofs.Tryz.f52 Bl Jk 2=true:=by decide +kernel
theorem UR{c:List Int}(hc:fq c){a:Nat}{h:Int}(ha:a<=c.length)(t:List UInt8)(ht:t.length<=1048000):bM Go.Proofs.Tryz.prog 52 [.aw 0 [(0,0)],.str t] [bU c a h] (vV c (t.length+1)):=by
 refine dN .tree Go.Proofs.Tryz.func52 Rs ?_;unfold Jk ak Bl;simp only[go_sem];refine⟨fun _=>?_,fun ht0=>?_⟩
 ·refine bf [6] false (dG hc ha 4) ?_
  rintro _ _ ⟨a1,h1,x1,ha1,⟨x0,-,x4⟩,rfl,rfl⟩;refine⟨(by repeat(first | exact trivial | refine⟨(fun h=>by cases h),?_⟩)),(fun h=>by cases h),?_⟩;obtain⟨k,rfl⟩:∃k:Nat,x1=k:=⟨x1.toNat,by omega⟩;have hk:k<4:=by have:=x4 (by decide);omega
  have e:=Ae (L:=[[97],[32],[48],[59]]) (k:=k);have hl:=EC (L:=[[97],[32],[48],[59]]) (b:=1) (by decide) k;generalize[[97],[32],[48],[59]].getD k ([]:List UInt8)=u at e hl;simp only[List.map_cons,List.map_nil] at e;simp only[go_sem,e,Ad];exact⟨hk,_,_,⟨a1,h1,u,ha1,Nat.le_trans hl (by omega),rfl,rfl⟩,rfl,rfl,rfl,trivial⟩
 ·refine bf [6] false (dG hc ha t.length) ?_
  rintro _ _ ⟨a1,h1,x1,ha1,⟨x0,-,x4⟩,rfl,rfl⟩;refine⟨(by repeat(first | exact trivial | refine⟨(fun h=>by cases h),?_⟩)),(fun h=>by cases h),?_⟩;obtain⟨k,rfl⟩:∃k:Nat,x1=k:=⟨x1.toNat,by omega⟩
  have hk:k<t.length:=by
   have:t.length≠0:=fun e=>by rw[e] at ht0;cases ht0
   omega
  simp only[go_sem];refine bf [6] false (dG hc ha1 14) ?_;rintro _ _ ⟨a2,h2,x2,ha2,⟨y0,-,y4⟩,rfl,rfl⟩;refine⟨(by repeat(first | exact trivial | refine⟨(fun h=>by cases h),?_⟩)),(fun h=>by cases h),?_⟩;obtain⟨j,rfl⟩:∃j:Nat,x2=j:=⟨x2.toNat,by omega⟩;have hj:j<14:=by have:=y4 (by decide);omega
  have e:=Ae (L:=[[48],[49],[32],[44],[59],[58],[97],[45],[46],[62],[61],[47],[40],[41]]) (k:=j);have hl:=EC (L:=[[48],[49],[32],[44],[59],[58],[97],[45],[46],[62],[61],[47],[40],[41]]) (b:=1) (by decide) j;generalize[[48],[49],[32],[44],[59],[58],[97],[45],[46],[62],[61],[47],[40],[41]].getD j ([]:List UInt8)=u at e hl;simp only[List.map_cons,List.map_nil] at e;simp only[go_sem,e,Ad];refine⟨hj,?_⟩;refine bf [6] false (dG hc ha2 3) ?_;rintro _ _ ⟨a3,h3,x3,ha3,_,rfl,rfl⟩;refine⟨(by repeat(first | exact trivial | refine⟨(fun h=>by cases h),?_⟩)),(fun h=>by cases h),?_⟩;simp only[go_sem];have hw:IntKind.i64.wrap ((k:Int)+1)=((k+1:Nat):Int):=aM hk (by simp only[maxLen];omega);have hm:∀{x y:List UInt8},x.length<=t.length+1->y.length<=t.length+1->x.length+y.length<=maxLen:=fun h1 h2=>by simp only[maxLen];omega
  have l1:(t.take k++u++t.drop (k+1)).length<=t.length+1:=by simp only[List.length_append,List.length_take,List.length_drop];omega
  have l2:(t.take k++t.drop (k+1)).length<=t.length+1:=by simp only[List.length_append,List.length_take,List.length_drop];omega
  have l3:(t.take k++u++t.drop k).length<=t.length+1:=by simp only[List.length_append,List.length_take,List.length_drop];omega
  have l4:(t.take k++u).length<=t.length+1:=by simp only[List.length_append,List.length_take];omega
  have l5:(t.take k).length<=t.length+1:=by simp only[List.length_take];omega
  have l6:∀j,(t.drop j).length<=t.length+1:=fun j=>by simp only[List.length_drop];omega
  simp only[hw,Int.toNat_natCast,List.take_length];refine⟨fun _=>⟨⟨Nat.zero_le _,by omega⟩,hm l5 (by omega),⟨by omega,by omega,Nat.le_refl _⟩,hm l4 (l6 _),_,_,⟨a3,h3,_,ha3,l1,rfl,rfl⟩,rfl,rfl,rfl,trivial⟩,fun _=>⟨fun _=>?_,fun _=>?_⟩⟩
  ·exact⟨⟨Nat.zero_le _,by omega⟩,⟨by omega,by omega,Nat.le_refl _⟩,hm l5 (l6 _),_,_,⟨a3,h3,_,ha3,l2,rfl,rfl⟩,rfl,rfl,rfl,trivial⟩
  ·exact⟨⟨Nat.zero_le _,by omega⟩,hm l5 (by omega),⟨by omega,Nat.le_refl _⟩,hm l4 (l6 _),_,_,⟨a3,h3,_,ha3,l3,rfl,rfl⟩,rfl,rfl,rfl,trivial⟩
end Go.D3
