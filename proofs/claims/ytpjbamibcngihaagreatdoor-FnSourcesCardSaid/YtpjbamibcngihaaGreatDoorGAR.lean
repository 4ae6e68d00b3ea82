/- CONTRACTS: lines that are read,heads of journals,both sides. -/
import Derived.Test.YtpjbamibcngihaaGreatDoorGAH
import Derived.Test.YtpjbamibcngihaaGreatDoorGAQ
import Derived.Test.YtpjbamibcngihaaGreatDoorGAO
namespace Go.D3
open Go
set_option maxHeartbeats 4000000
set_option maxRecDepth 100000
set_option maxHeartbeats 1000000
def ah.line(c:ah):List UInt8:=if c.kd=1 then[97,100,100,32]++Lib.itoa c.fi else[115,101,116,32]++Lib.itoa c.fi++[32]++Lib.itoa c.se++[32]++Lib.itoa c.th
theorem zK{n:Int}(h:IntKind.i64.has n):(Lib.itoa n).length<=21:=by
 simp[IntKind.has,IntKind.min,IntKind.max,IntKind.signed,IntKind.bits] at h;exact Lib.itoa_length_le n h.1 h.2
def ah.has(c:ah):Prop:=IntKind.i64.has c.kd/\IntKind.i64.has c.fi/\IntKind.i64.has c.se/\IntKind.i64.has c.th
theorem ah.UX{c:ah}(h:c.d.dh):c.has:=by
 simp only[ah.d,ah.cells,D.dh,fT,and_true] at h;exact h
theorem RZ{c:ah}(h:c.has):c.line.length<=72:=by
 obtain⟨_,h1,h2,h3⟩:=h;have:=zK h1;have:=zK h2;have:=zK h3;unfold ah.line;split<;>simp only[List.length_append,List.length_cons,List.length_nil]<;>omega
def pX(c:ah):Prop:=(0<=c.fi/\c.fi<=1000000)/\(c.kd≠1->(0<=c.se/\c.se<=1000000)/\0<=c.th/\c.th<=1000000)
def xf:List Nat:=[0,2,1]
def Dp:Sl:=ak Go.Proofs.Tryz.types Go.Proofs.Tryz.f70 xf []
theorem LY:aI Go.Proofs.Tryz.prog Go.Proofs.Tryz.f70 xf Dp 1=true:=by decide +kernel
theorem Li(c:ah)(hc:pX c):aC Go.Proofs.Tryz.prog 70 [.v (ah.d c)] (.str c.line):=by
 have:=fv hc.1.1 (by have:=hc.1;omega);refine aT Go.Proofs.Tryz.func70 LY ?_;unfold Dp ak xf;simp only[go_sem];unfold ah.line;refine⟨fun h=>ax (jR hc.1.1 (by have:=hc.1;omega)) rfl (.inl rfl) ?_,fun h=>ax (jR hc.1.1 (by have:=hc.1;omega)) rfl (.inl rfl) ?_⟩
 all_goals simp only[go_sem]
 ·exact⟨(by simp only[maxLen];omega),by rw[if_pos h]⟩
 ·have h:c.kd≠1:=by simpa using h
  obtain⟨h2,h3⟩:=hc.2 h;have:=fv h2.1 (by omega);have:=fv h3.1 (by omega);refine⟨(by simp only[maxLen];omega),(by simp only[maxLen];omega),ax (jR h2.1 (by omega)) rfl (.inl rfl) ?_⟩;simp only[go_sem];refine⟨(by simp only[maxLen,List.length_append,List.length_cons,List.length_nil];omega),(by simp only[maxLen,List.length_append,List.length_cons,List.length_nil];omega),ax (jR h3.1 (by omega)) rfl (.inl rfl) ?_⟩;simp only[go_sem];refine⟨(by simp only[maxLen,List.length_append,List.length_cons,List.length_nil];omega),?_⟩;rw[if_neg h]
def bL(l:List ah):List UInt8:=(l.map fun c=>c.line++[10]).flatten
theorem ye{l:List ah}{c:ah}:bL (l++[c])=bL l++(c.line++[10]):=by unfold bL;simp
def dF(t:List UInt8):List UInt8:=[101,110,100,32]++Lib.itoa (fE 7 t)
def oe(t:List UInt8)(l:List ah):List UInt8:=t++bL l++dF (t++bL l)++[10]
theorem Pb{t:List UInt8}:∀{n:Int},0<=n->n<=1000003->0<=fE n t/\fE n t<=1000003:=by
 induction t with
 | nil=>exact fun h1 h2=>⟨h1,h2⟩
 | cons b t ih =>
  intro n h1 h2;have:=b.toNat_lt;have e:((31*n+(b.toNat:Int)).tmod 1000003)=(31*n+(b.toNat:Int)) % 1000003:=Int.tmod_eq_emod_of_nonneg (by omega);exact ih (n:=(31*n+(b.toNat:Int)).tmod 1000003) (by rw[e];omega) (by rw[e];omega)
theorem pI{t:List UInt8} : 0<=fE 7 t/\fE 7 t<=1000003:=Pb (by decide) (by decide)
theorem PB{l:List ah}(h:∀c∈l,c.line.length<=72):(bL l).length<=73*l.length:=by
 induction l with
 | nil=>simp[bL]
 | cons c l ih =>
  have h1:=ih fun x hx=>h x (List.mem_cons_of_mem _ hx)
  have h2:=h c List.mem_cons_self;have e:bL (c::l)=(c.line++[10])++bL l:=rfl;rw[e];simp only[List.length_append,List.length_cons,List.length_nil];omega
theorem oX{α:Type}{l:List α}{i:Nat}{d:α}(h:i<l.length):l.getD i d∈l:=by rw[aS h];exact List.getElem_mem _
def xC:List Nat:=[0,1,4,5]
def DM:Sl:=ak Go.Proofs.Tryz.types Go.Proofs.Tryz.f42 xC []
theorem MH:aI Go.Proofs.Tryz.prog Go.Proofs.Tryz.f42 xC DM 2=true:=by decide +kernel
theorem Mm(t:List UInt8)(l:List ah)(ht:t.length<=4294966000)(hl:l.length<=1048576)(hok:∀c∈l,pX c):aC Go.Proofs.Tryz.prog 42 [.v (.str t),.v (ae ah.d ah.zero l)] (.str (oe t l)):=by
 refine fe fun hw=>?_
 simp only[dM,gf] at hw;have hc:∀c∈l,c.line.length<=72:=fun c hc=>RZ (ah.UX (hw.2.1.2 c hc))
 clear hw;refine aT Go.Proofs.Tryz.func42 MH ?_;unfold DM ak xC;simp only[go_sem];refine aG [] (fun(i:Nat)=>[(0,.str (t++bL (l.take i))),(3,.int .i64 i)]) (fun i=>i<=l.length) (fun i=>l.length-i) 0 (by simp only[go_sem];rfl) (Nat.zero_le _) (by simp[cM,ei,bL]) ?_;intro i hi;have hll:=PB (l:=l.take i) fun c h=>hc c (List.mem_of_mem_take h)
 rw[List.length_take] at hll;simp only[go_sem];refine⟨fun h=>?_,fun h=>?_⟩
 ·have hm:=hc _ (oX (d:=ah.zero) h)
  refine⟨h,ax (Li (l.getD i ah.zero) (hok _ (oX h))) rfl (.inl rfl) ?_⟩;simp only[go_sem];refine⟨(by simp only[maxLen,List.length_append];omega),(by simp only[maxLen,List.length_append];omega),i+1,h,by omega,?_⟩;rw[wrap_small (by omega) (by omega),cV h ah.zero,ye,List.append_assoc,List.append_assoc];rfl
 ·rw[List.take_of_length_le (by omega)] at hll|-
  refine⟨(by simp only[maxLen,List.length_append];omega),ax (Cg _) rfl (.inl rfl) ?_⟩;simp only[go_sem];have hk:=pI (t:=t++bL l);refine ax (jR hk.1 (by omega)) rfl (.inl rfl) ?_;simp only[go_sem];have:=fv hk.1 (by omega);refine⟨(by simp only[maxLen,List.length_append,List.length_cons,List.length_nil];omega),(by simp only[maxLen,List.length_append,List.length_cons,List.length_nil];omega),?_⟩;unfold oe dF;simp only[List.append_assoc]
def ju(s:aa):List UInt8:=[115,99,104,101,109,97,32]++s.aM++[10]
end Go.D3
namespace Go.D3
open Go
set_option maxRecDepth 100000
def ia(l:List (List UInt8)):Option (List Nat):=l.mapM (bt 9)
def dP(s:List UInt8):Option ah:=match ia ((aR [32] 0 s).drop 1) with
 | some [a]=>if(aR [32] 0 s).getD 0 []=[97,100,100] then some ⟨1,a,0,0⟩ else none
 | some [a,b,c]=>if(aR [32] 0 s).getD 0 []=[115,101,116] then some ⟨2,a,b,c⟩ else none
 | _=>none
def oc:Option ah->D
 | some c=>.au [ah.d c,.bool true]
 | none=>.au [ah.d ah.zero,.bool false]
theorem Ic(o:Option ah):(oc o).bl=true:=by cases o<;>rfl
theorem FH{l:List (List UInt8)}{i:Nat}{ns:List Nat}{n:Nat}(h:i<l.length)(h1:ia (l.take i)=some ns)(h2:bt 9 (l.getD i [])=some n):ia (l.take (i+1))=some (ns++[n]):=by
 unfold ia at *;rw[cV h [],List.mapM_append,h1,List.mapM_cons,h2];rfl
theorem Hc{l:List (List UInt8)}{i:Nat}(h:i<l.length)(h2:bt 9 (l.getD i [])=none):ia l=none:=by
 unfold ia;have e:l=l.take i++(l.getD i []::l.drop (i+1)):=by rw[aS h,<-List.drop_eq_getElem_cons h,List.take_append_drop]
 rw[e,List.mapM_append,List.mapM_cons,h2];cases(l.take i).mapM (bt 9)<;>rfl
theorem Ij{p s:List UInt8} : 0<(aR p 0 s).length:=List.length_pos_iff.2 o7
def fQ(l:List Nat):List Int:=l.map fun n:Nat=>(n:Int)
theorem Io{s:List UInt8}{ns:List Nat}(h:ia ((aR [32] 0 s).drop 1)=some ns):dP s=if(aR [32] 0 s).getD 0 []=[97,100,100]/\ns.length=1 then some ⟨1,(fQ ns).getD 0 0,0,0⟩ else if(aR [32] 0 s).getD 0 []=[115,101,116]/\ns.length=3 then some ⟨2,(fQ ns).getD 0 0,(fQ ns).getD 1 0,(fQ ns).getD 2 0⟩ else none:=by
 unfold dP;rw[h]
 match ns with
 | []=>simp
 | [a]=>by_cases h1:(aR [32] 0 s).getD 0 []=[97,100,100]<;>simp[fQ]
 | [a,b]=>simp
 | [a,b,c]=>by_cases h1:(aR [32] 0 s).getD 0 []=[115,101,116]<;>simp[fQ]
 | a::b::c::d::r=>simp
def vV:List Nat:=[0,2,3,4,5,7,8,9,14,15,16]
def B0:Sl:=ak Go.Proofs.Tryz.types Go.Proofs.Tryz.f112 vV []
theorem Ky:aI Go.Proofs.Tryz.prog Go.Proofs.Tryz.f112 vV B0 1=true:=by decide +kernel
theorem Kt(s:List UInt8)(hs:s.length<=4294966000):aC Go.Proofs.Tryz.prog 112 [.v (.str s)] (oc (dP s)):=by
 refine aT Go.Proofs.Tryz.func112 Ky ?_;unfold B0 ak vV;simp only[go_sem];refine s8 (Af (by decide) (by omega)) rfl (.inl (iX _)) ?_;have hp:=Ij (p:=[32]) (s:=s);have hl:=lS (p:=[32]) (k:=0) (s:=s);have hm:∀x∈aR [32] 0 s,x.length<=s.length:=fun x hx=>gG hx
 have hend:=@Io s
 have hbad:∀i,i<((aR [32] 0 s).drop 1).length->bt 9 (((aR [32] 0 s).drop 1).getD i [])=none->dP s=none:=fun i h1 h2=>by
  unfold dP;rw[Hc h1 h2]
 generalize aR [32] 0 s=ws at hp hl hm hend hbad;simp only[go_sem];refine⟨⟨by decide,by omega,by omega⟩,?_⟩;rw[List.take_of_length_le (Nat.le_refl _)];have hvl:(ws.drop 1).length<=ws.length:=by rw[List.length_drop];omega
 have hvm:∀x∈ws.drop 1,x.length<=s.length:=fun x hx=>hm x (List.mem_of_mem_drop hx)
 generalize ws.drop 1=vs at hend hbad hvl hvm;refine aG [5,6,7] (fun(p:Nat×List Nat)=>[(4,.o (ints (fQ p.2))),(10,.int .i64 p.1)]) (fun p=>p.1<=vs.length/\p.2.length=p.1/\ia (vs.take p.1)=some p.2) (fun p=>vs.length-p.1) (0,[]) (by simp only[go_sem];rfl) ⟨Nat.zero_le _,rfl,rfl⟩ rfl ?_;rintro⟨i,ns⟩ ⟨hi,hln,hns⟩;simp only at hi hln hns;simp only[go_sem];have hil:(fQ ns).length=ns.length:=by unfold fQ;rw[List.length_map]
 refine⟨fun h=>⟨h,?_⟩,fun h=>?_⟩
 ·have hx:=hvm _ (oX (d:=[]) h)
  refine ax (KE _ (by omega)) rfl (.inl rfl) ?_;cases hn:bt 9 (vs.getD i []) with
  | none =>
   rw[hbad i h hn];simp only[go_sem];exact⟨fun _=>rfl,fun h=>by cases h⟩
  | some n =>
   rw[Ps hn];simp only[go_sem];refine⟨fun h=>(by cases h),fun _=>⟨by omega,(i+1,ns++[n]),⟨h,by simp[hln],FH h hns hn⟩,by show vs.length-(i+1)<_;omega,?_⟩⟩;rw[wrap_small (by omega) (by omega)];unfold fQ;rw[List.map_append];rfl
 ·rw[List.take_of_length_le (by omega)] at hns
  have he:=hend hns;have e1:((fQ ns).length:Int)=ns.length:=by rw[hil]
  refine⟨⟨by decide,by omega⟩,fun h1=>?_,fun h1=>⟨⟨by decide,by omega⟩,fun h2=>?_,fun h2=>?_⟩⟩
  ·simp only[Bool.and_eq_true,beq_iff_eq] at h1
   rw[he,if_pos ⟨h1.1,by omega⟩];exact⟨⟨by decide,by omega⟩,rfl⟩
  ·have h1:¬(ws.getD 0 []=[97,100,100]/\ns.length=1):=fun hh=>by
    rw[hh.1,e1,hh.2] at h1;cases h1
   simp only[Bool.and_eq_true,beq_iff_eq] at h2;rw[he,if_neg h1,if_pos ⟨h2.1,by omega⟩];exact⟨⟨by decide,by omega⟩,⟨by decide,by omega⟩,⟨by decide,by omega⟩,rfl⟩
  ·have h1:¬(ws.getD 0 []=[97,100,100]/\ns.length=1):=fun hh=>by
    rw[hh.1,e1,hh.2] at h1;cases h1
   have h2:¬(ws.getD 0 []=[115,101,116]/\ns.length=3):=fun hh=>by
    rw[hh.1,e1,hh.2] at h2;cases h2
   rw[he,if_neg h1,if_neg h2];rfl
def xb:List Nat:=[0,2,3,4,5,6,7]
def Di:Sl:=ak Go.Proofs.Tryz.types Go.Proofs.Tryz.f57 xb []
theorem Mo:aI Go.Proofs.Tryz.prog Go.Proofs.Tryz.f57 xb Di 1=true:=by decide +kernel
theorem Ln(s:List UInt8)(hs:s.length<=4294966000):aC Go.Proofs.Tryz.prog 57 [.v (.str s)] (oc (dP s)):=by
 refine aT Go.Proofs.Tryz.func57 Mo ?_;unfold Di ak xb;simp only[go_sem];refine s8 (qd s 32 (by omega)) rfl (.inl (iX _)) ?_;have hp:=Ij (p:=[32]) (s:=s);have hl:=lS (p:=[32]) (k:=0) (s:=s);have hm:∀x∈aR [32] 0 s,x.length<=s.length:=fun x hx=>gG hx
 have hend:=@Io s
 have hbad:∀i,i<((aR [32] 0 s).drop 1).length->bt 9 (((aR [32] 0 s).drop 1).getD i [])=none->dP s=none:=fun i h1 h2=>by
  unfold dP;rw[Hc h1 h2]
 generalize aR [32] 0 s=ws at hp hl hm hend hbad;have hdl:(ws.drop 1).length+1=ws.length:=by rw[List.length_drop];omega
 have hdg:∀i,(ws.drop 1).getD i []=ws.getD (i+1) []:=fun i=>by rw[List.getD_eq_getElem?_getD,List.getElem?_drop,Nat.add_comm 1,<-List.getD_eq_getElem?_getD]
 simp only[go_sem];refine aG [6] (fun(p:Nat×List Nat)=>[(4,.o (ints (fQ p.2))),(5,.int .i64 (p.1+1:Nat))]) (fun p=>p.1<=(ws.drop 1).length/\p.2.length=p.1/\ia ((ws.drop 1).take p.1)=some p.2) (fun p=>(ws.drop 1).length-p.1) (0,[]) (by simp only[go_sem];rfl) ⟨Nat.zero_le _,rfl,rfl⟩ rfl ?_;rintro⟨i,ns⟩ ⟨hi,hln,hns⟩;simp only at hi hln hns;simp only[go_sem];have hil:(fQ ns).length=ns.length:=by unfold fQ;rw[List.length_map]
 refine⟨fun h=>⟨h,?_⟩,fun h=>?_⟩
 ·have hx:=hm _ (oX (d:=[]) h)
  refine ax (oD _) rfl (.inl (by cases bt 9 (ws.getD (i+1) [])<;>rfl)) ?_;cases hn:bt 9 (ws.getD (i+1) []) with
  | none =>
   rw[hbad i (by omega) (by rw[hdg];exact hn)];simp only[kq];simp only[go_sem];exact⟨fun _=>rfl,fun h=>absurd (by decide) h⟩
  | some n =>
   simp only[kq];simp only[go_sem];refine⟨fun h=>by omega,fun _=>⟨by omega,(i+1,ns++[n]),⟨by show i+1<=_;omega,by simp[hln],FH (by omega) hns (by rw[hdg];exact hn)⟩,by show(ws.drop 1).length-(i+1)<_;omega,?_⟩⟩;rw[wrap_small (by omega) (by omega)];unfold fQ;rw[List.map_append];rfl
 ·rw[List.take_of_length_le (by omega)] at hns
  have he:=hend hns;have e1:((fQ ns).length:Int)=ns.length:=by rw[hil]
  refine⟨⟨by decide,by omega⟩,fun h1=>?_,fun h1=>⟨⟨by decide,by omega⟩,fun h2=>?_,fun h2=>?_⟩⟩
  ·simp only[Bool.and_eq_true,beq_iff_eq] at h1
   rw[he,if_pos ⟨h1.1,by omega⟩];exact⟨⟨by decide,by omega⟩,rfl⟩
  ·have h1:¬(ws.getD 0 []=[97,100,100]/\ns.length=1):=fun hh=>by
    rw[hh.1,e1,hh.2] at h1;cases h1
   simp only[Bool.and_eq_true,beq_iff_eq] at h2;rw[he,if_neg h1,if_pos ⟨h2.1,by omega⟩];exact⟨⟨by decide,by omega⟩,⟨by decide,by omega⟩,⟨by decide,by omega⟩,rfl⟩
  ·have h1:¬(ws.getD 0 []=[97,100,100]/\ns.length=1):=fun hh=>by
    rw[hh.1,e1,hh.2] at h1;cases h1
   have h2:¬(ws.getD 0 []=[115,101,116]/\ns.length=3):=fun hh=>by
    rw[hh.1,e1,hh.2] at h2;cases h2
   rw[he,if_neg h1,if_neg h2];rfl
end Go.D3
