/- CONTRACTS: lines that are read, heads of journals, both sides. -/
import Derived.Test.YtpjbamibcngihaaGreatDoorGAH
import Derived.Test.YtpjbamibcngihaaGreatDoorGAQ
import Derived.Test.YtpjbamibcngihaaGreatDoorGAO
namespace Go.D3
open Go
set_option maxHeartbeats 4000000
set_option maxRecDepth 100000
set_option maxHeartbeats 1000000
def ah.line(c:ah):List UInt8:=if c.kd=1 then[97,100,100,32]++Lib.itoa c.fi else[115,101,116,32]++Lib.itoa c.fi++[32]++Lib.itoa c.se++[32]++Lib.itoa c.th
theorem py{n:Int}(h:IntKind.i64.has n):(Lib.itoa n).length<=21:=by
 simp[IntKind.has,IntKind.min,IntKind.max,IntKind.signed,IntKind.bits] at h;exact Lib.itoa_length_le n h.1 h.2
def ah.has(c:ah):Prop:=IntKind.i64.has c.kd/\IntKind.i64.has c.fi/\IntKind.i64.has c.se/\IntKind.i64.has c.th
theorem ah.xr{c:ah}(h:c.d.du):c.has:=by
 simp only[ah.d,ah.cells,D.du,gu,and_true] at h;exact h
theorem xO{c:ah}(h:c.has):c.line.length<=72:=by
 obtain⟨_,h1,h2,h3⟩:=h;have:=py h1;have:=py h2;have:=py h3;unfold ah.line;split<;>simp only[List.length_append,List.length_cons,List.length_nil]<;>omega
def Ao:List Nat:=[0,2,1,3]
def Im:Sl:=ak Go.Proofs.Tryz.types Go.Proofs.Tryz.f65 Ao []
theorem Qu:aF Go.Proofs.Tryz.prog Go.Proofs.Tryz.f65 Ao Im 1=true:=by decide +kernel
theorem Uh(c:ah):aC Go.Proofs.Tryz.prog 65 [.v (ah.d c)] (.str c.line):=by
 refine ei fun hw=>?_
 have hc:=ah.xr hw.1;obtain⟨_,h1,h2,h3⟩:=hc;have:=py h1;have:=py h2;have:=py h3;refine aQ Go.Proofs.Tryz.func65 Qu ?_;unfold Im ak Ao;simp only[go_sem];refine av kE rfl (.inl rfl) ?_;simp only[go_sem];unfold ah.line;refine⟨fun h=>⟨(by simp only[maxLen];omega),by rw[if_pos h];rfl⟩,fun h=>⟨(by simp only[maxLen];omega),(by simp only[maxLen];omega),?_⟩⟩;refine av kE rfl (.inl rfl) ?_;simp only[go_sem];refine⟨(by simp only[maxLen,List.length_append,List.length_cons,List.length_nil];omega),(by simp only[maxLen,List.length_append,List.length_cons,List.length_nil];omega),av kE rfl (.inl rfl) ?_⟩;simp only[go_sem];refine⟨(by simp only[maxLen,List.length_append,List.length_cons,List.length_nil];omega),?_⟩;rw[if_neg (by simpa using h)]
def lJ(c:ah):Prop:=(0<=c.fi/\c.fi<=1000000)/\(c.kd≠1->(0<=c.se/\c.se<=1000000)/\0<=c.th/\c.th<=1000000)
def Cb:List Nat:=[0,2,1]
def J9:Sl:=ak Go.Proofs.Tryz.types Go.Proofs.Tryz.f70 Cb []
theorem Su:aF Go.Proofs.Tryz.prog Go.Proofs.Tryz.f70 Cb J9 1=true:=by decide +kernel
theorem Vi(c:ah)(hc:lJ c):aC Go.Proofs.Tryz.prog 70 [.v (ah.d c)] (.str c.line):=by
 have:=fc hc.1.1 (by have:=hc.1;omega);refine aQ Go.Proofs.Tryz.func70 Su ?_;unfold J9 ak Cb;simp only[go_sem];unfold ah.line;refine⟨fun h=>av (kD hc.1.1 (by have:=hc.1;omega)) rfl (.inl rfl) ?_,fun h=>av (kD hc.1.1 (by have:=hc.1;omega)) rfl (.inl rfl) ?_⟩
 all_goals simp only[go_sem]
 ·exact⟨(by simp only[maxLen];omega),by rw[if_pos h]⟩
 ·have h:c.kd≠1:=by simpa using h
  obtain⟨h2,h3⟩:=hc.2 h;have:=fc h2.1 (by omega);have:=fc h3.1 (by omega);refine⟨(by simp only[maxLen];omega),(by simp only[maxLen];omega),av (kD h2.1 (by omega)) rfl (.inl rfl) ?_⟩;simp only[go_sem];refine⟨(by simp only[maxLen,List.length_append,List.length_cons,List.length_nil];omega),(by simp only[maxLen,List.length_append,List.length_cons,List.length_nil];omega),av (kD h3.1 (by omega)) rfl (.inl rfl) ?_⟩;simp only[go_sem];refine⟨(by simp only[maxLen,List.length_append,List.length_cons,List.length_nil];omega),?_⟩;rw[if_neg h]
def bu(l:List ah):List UInt8:=(l.map fun c=>c.line++[10]).flatten
theorem tV{l:List ah}{c:ah}:bu (l++[c])=bu l++(c.line++[10]):=by unfold bu;simp
def cR(t:List UInt8):List UInt8:=[101,110,100,32]++Lib.itoa (fK 7 t)
def dE(t:List UInt8)(l:List ah):List UInt8:=t++bu l++cR (t++bu l)++[10]
theorem Mg{t:List UInt8}:∀{n:Int},0<=n->n<=1000003->0<=fK n t/\fK n t<=1000003:=by
 induction t with
 | nil=>exact fun h1 h2=>⟨h1,h2⟩
 | cons b t ih =>
  intro n h1 h2;have:=b.toNat_lt;have e:((31*n+(b.toNat:Int)).tmod 1000003)=(31*n+(b.toNat:Int)) % 1000003:=Int.tmod_eq_emod_of_nonneg (by omega);exact ih (n:=(31*n+(b.toNat:Int)).tmod 1000003) (by rw[e];omega) (by rw[e];omega)
theorem jY{t:List UInt8} : 0<=fK 7 t/\fK 7 t<=1000003:=Mg (by decide) (by decide)
theorem xQ{l:List ah}(h:∀c∈l,c.line.length<=72):(bu l).length<=73*l.length:=by
 induction l with
 | nil=>simp[bu]
 | cons c l ih =>
  have h1:=ih fun x hx=>h x (List.mem_cons_of_mem _ hx)
  have h2:=h c List.mem_cons_self;have e:bu (c::l)=(c.line++[10])++bu l:=rfl;rw[e];simp only[List.length_append,List.length_cons,List.length_nil];omega
theorem MH{t:List UInt8}:(cR t).length<=24:=by
 have:=fc (jY (t:=t)).1 (by have:=(jY (t:=t)).2;omega);unfold cR;simp only[List.length_append,List.length_cons,List.length_nil];omega
theorem rb{α:Type}{l:List α}{i:Nat}{d:α}(h:i<l.length):l.getD i d∈l:=by rw[aS h];exact List.getElem_mem _
def A2:List Nat:=[0,1,4,5,7,9,10,11]
def I1:Sl:=ak Go.Proofs.Tryz.types Go.Proofs.Tryz.f40 A2 []
theorem Q7:aF Go.Proofs.Tryz.prog Go.Proofs.Tryz.f40 A2 I1 2=true:=by decide +kernel
theorem HK(t:List UInt8)(l:List ah)(ht:t.length<=4294966000)(hl:l.length<=1048576):aC Go.Proofs.Tryz.prog 40 [.v (.str t),.v (ae ah.d ah.zero l)] (.str (dE t l)):=by
 refine ei fun hw=>?_
 simp only[dc,eW] at hw;have hc:∀c∈l,c.line.length<=72:=fun c hc=>xO (ah.xr (hw.2.1.2 c hc))
 clear hw;refine aQ Go.Proofs.Tryz.func40 Q7 ?_;unfold I1 ak A2;simp only[go_sem];refine aE [4] (fun(i:Nat)=>[(3,.str (t++bu (l.take i))),(7,.int .i64 i)]) (fun i=>i<=l.length) (fun i=>l.length-i) 0 (by simp only[go_sem];rfl) (Nat.zero_le _) (by simp[eU,ej,bu]) ?_;intro i hi;have hll:=xQ (l:=l.take i) fun c h=>hc c (List.mem_of_mem_take h)
 rw[List.length_take] at hll;simp only[go_sem];refine⟨fun h=>?_,fun h=>?_⟩
 ·have hm:=hc _ (rb (d:=ah.zero) h)
  refine⟨h,av (Uh (l.getD i ah.zero)) rfl (.inl rfl) ?_⟩;simp only[go_sem];refine⟨(by simp only[maxLen];omega),(by simp only[maxLen,List.length_append,List.length_cons,List.length_nil];omega),i+1,h,by omega,?_⟩;rw[wrap_small (by omega) (by omega),cH h ah.zero,tV,List.append_assoc];rfl
 ·rw[List.take_of_length_le (by omega)] at hll|-
  refine⟨(by simp only[maxLen,List.length_append];omega),av (HC _) rfl (.inl rfl) ?_⟩;simp only[go_sem];refine av kE rfl (.inl rfl) ?_;simp only[go_sem];have:=fc (jY (t:=t++bu l)).1 (by have:=(jY (t:=t++bu l)).2;omega);refine⟨(by simp only[maxLen,List.length_append,List.length_cons,List.length_nil];omega),(by simp only[maxLen,List.length_append,List.length_cons,List.length_nil];omega),?_⟩;unfold dE cR;simp only[List.append_assoc]
def Ce:List Nat:=[0,1,4,5]
def Kc:Sl:=ak Go.Proofs.Tryz.types Go.Proofs.Tryz.f42 Ce []
theorem Sx:aF Go.Proofs.Tryz.prog Go.Proofs.Tryz.f42 Ce Kc 2=true:=by decide +kernel
theorem H7(t:List UInt8)(l:List ah)(ht:t.length<=4294966000)(hl:l.length<=1048576)(hok:∀c∈l,lJ c):aC Go.Proofs.Tryz.prog 42 [.v (.str t),.v (ae ah.d ah.zero l)] (.str (dE t l)):=by
 refine ei fun hw=>?_
 simp only[dc,eW] at hw;have hc:∀c∈l,c.line.length<=72:=fun c hc=>xO (ah.xr (hw.2.1.2 c hc))
 clear hw;refine aQ Go.Proofs.Tryz.func42 Sx ?_;unfold Kc ak Ce;simp only[go_sem];refine aE [] (fun(i:Nat)=>[(0,.str (t++bu (l.take i))),(3,.int .i64 i)]) (fun i=>i<=l.length) (fun i=>l.length-i) 0 (by simp only[go_sem];rfl) (Nat.zero_le _) (by simp[eU,ej,bu]) ?_;intro i hi;have hll:=xQ (l:=l.take i) fun c h=>hc c (List.mem_of_mem_take h)
 rw[List.length_take] at hll;simp only[go_sem];refine⟨fun h=>?_,fun h=>?_⟩
 ·have hm:=hc _ (rb (d:=ah.zero) h)
  refine⟨h,av (Vi (l.getD i ah.zero) (hok _ (rb h))) rfl (.inl rfl) ?_⟩;simp only[go_sem];refine⟨(by simp only[maxLen,List.length_append];omega),(by simp only[maxLen,List.length_append];omega),i+1,h,by omega,?_⟩;rw[wrap_small (by omega) (by omega),cH h ah.zero,tV,List.append_assoc,List.append_assoc];rfl
 ·rw[List.take_of_length_le (by omega)] at hll|-
  refine⟨(by simp only[maxLen,List.length_append];omega),av (H3 _) rfl (.inl rfl) ?_⟩;simp only[go_sem];have hk:=jY (t:=t++bu l);refine av (kD hk.1 (by omega)) rfl (.inl rfl) ?_;simp only[go_sem];have:=fc hk.1 (by omega);refine⟨(by simp only[maxLen,List.length_append,List.length_cons,List.length_nil];omega),(by simp only[maxLen,List.length_append,List.length_cons,List.length_nil];omega),?_⟩;unfold dE cR;simp only[List.append_assoc]
def cA(s:aa):List UInt8:=[115,99,104,101,109,97,32]++s.aL++[10]
def AU:List Nat:=[0,2]
def IU:Sl:=ak Go.Proofs.Tryz.types Go.Proofs.Tryz.f47 AU []
theorem Q0:aF Go.Proofs.Tryz.prog Go.Proofs.Tryz.f47 AU IU 1=true:=by decide +kernel
theorem HH(s:aa)(h:eN s):aC Go.Proofs.Tryz.prog 47 [.v (.ptr s.cells)] (.str (cA s)):=by
 have:=sd h;refine aQ Go.Proofs.Tryz.func47 Q0 ?_;unfold IU ak AU;simp only[go_sem];refine av (HB s h) rfl (.inl rfl) ?_;simp only[go_sem];refine⟨(by simp only[maxLen];omega),(by simp only[maxLen];omega),?_⟩;rfl
end Go.D3
namespace Go.D3
open Go
set_option maxRecDepth 100000
def iv(l:List (List UInt8)):Option (List Nat):=l.mapM (bA 9)
def dR(s:List UInt8):Option ah:=match iv ((aT [32] 0 s).drop 1) with
 | some [a]=>if(aT [32] 0 s).getD 0 []=[97,100,100] then some ⟨1,a,0,0⟩ else none
 | some [a,b,c]=>if(aT [32] 0 s).getD 0 []=[115,101,116] then some ⟨2,a,b,c⟩ else none
 | _=>none
def nF:Option ah->D
 | some c=>.au [ah.d c,.bool true]
 | none=>.au [ah.d ah.zero,.bool false]
theorem Dy(o:Option ah):(nF o).ba=true:=by cases o<;>rfl
theorem F8{l:List (List UInt8)}{i:Nat}{ns:List Nat}{n:Nat}(h:i<l.length)(h1:iv (l.take i)=some ns)(h2:bA 9 (l.getD i [])=some n):iv (l.take (i+1))=some (ns++[n]):=by
 unfold iv at *;rw[cH h [],List.mapM_append,h1,List.mapM_cons,h2];rfl
theorem F6{l:List (List UInt8)}{i:Nat}(h:i<l.length)(h2:bA 9 (l.getD i [])=none):iv l=none:=by
 unfold iv;have e:l=l.take i++(l.getD i []::l.drop (i+1)):=by rw[aS h,<-List.drop_eq_getElem_cons h,List.take_append_drop]
 rw[e,List.mapM_append,List.mapM_cons,h2];cases(l.take i).mapM (bA 9)<;>rfl
theorem KJ{p s:List UInt8} : 0<(aT p 0 s).length:=List.length_pos_iff.2 p9
def gf(l:List Nat):List Int:=l.map fun n:Nat=>(n:Int)
theorem Dz{s:List UInt8}{ns:List Nat}(h:iv ((aT [32] 0 s).drop 1)=some ns):dR s=if(aT [32] 0 s).getD 0 []=[97,100,100]/\ns.length=1 then some ⟨1,(gf ns).getD 0 0,0,0⟩ else if(aT [32] 0 s).getD 0 []=[115,101,116]/\ns.length=3 then some ⟨2,(gf ns).getD 0 0,(gf ns).getD 1 0,(gf ns).getD 2 0⟩ else none:=by
 unfold dR;rw[h]
 match ns with
 | []=>simp
 | [a]=>by_cases h1:(aT [32] 0 s).getD 0 []=[97,100,100]<;>simp[gf]
 | [a,b]=>simp
 | [a,b,c]=>by_cases h1:(aT [32] 0 s).getD 0 []=[115,101,116]<;>simp[gf]
 | a::b::c::d::r=>simp
def AW:List Nat:=[0,2,3,4,5,7,8,9,14,15,16]
def IW:Sl:=ak Go.Proofs.Tryz.types Go.Proofs.Tryz.f112 AW []
theorem Q2:aF Go.Proofs.Tryz.prog Go.Proofs.Tryz.f112 AW IW 1=true:=by decide +kernel
theorem Uy(s:List UInt8)(hs:s.length<=4294966000):aC Go.Proofs.Tryz.prog 112 [.v (.str s)] (nF (dR s)):=by
 refine aQ Go.Proofs.Tryz.func112 Q2 ?_;unfold IW ak AW;simp only[go_sem];refine wM (zx (by decide) (by omega)) rfl (.inl (jH _)) ?_;have hp:=KJ (p:=[32]) (s:=s);have hl:=mY (p:=[32]) (k:=0) (s:=s);have hm:∀x∈aT [32] 0 s,x.length<=s.length:=fun x hx=>ic hx
 have hend:=@Dz s
 have hbad:∀i,i<((aT [32] 0 s).drop 1).length->bA 9 (((aT [32] 0 s).drop 1).getD i [])=none->dR s=none:=fun i h1 h2=>by
  unfold dR;rw[F6 h1 h2]
 generalize aT [32] 0 s=ws at hp hl hm hend hbad;simp only[go_sem];refine⟨⟨by decide,by omega,by omega⟩,?_⟩;rw[List.take_of_length_le (Nat.le_refl _)];have hvl:(ws.drop 1).length<=ws.length:=by rw[List.length_drop];omega
 have hvm:∀x∈ws.drop 1,x.length<=s.length:=fun x hx=>hm x (List.mem_of_mem_drop hx)
 generalize ws.drop 1=vs at hend hbad hvl hvm;refine aE [5,6,7] (fun(p:Nat×List Nat)=>[(4,.o (ints (gf p.2))),(10,.int .i64 p.1)]) (fun p=>p.1<=vs.length/\p.2.length=p.1/\iv (vs.take p.1)=some p.2) (fun p=>vs.length-p.1) (0,[]) (by simp only[go_sem];rfl) ⟨Nat.zero_le _,rfl,rfl⟩ rfl ?_;rintro⟨i,ns⟩ ⟨hi,hln,hns⟩;simp only at hi hln hns;simp only[go_sem];have hil:(gf ns).length=ns.length:=by unfold gf;rw[List.length_map]
 refine⟨fun h=>⟨h,?_⟩,fun h=>?_⟩
 ·have hx:=hvm _ (rb (d:=[]) h)
  refine av (Uw _ (by omega)) rfl (.inl rfl) ?_;cases hn:bA 9 (vs.getD i []) with
  | none =>
   rw[hbad i h hn];simp only[go_sem];exact⟨fun _=>rfl,fun h=>by cases h⟩
  | some n =>
   rw[Tf hn];simp only[go_sem];refine⟨fun h=>(by cases h),fun _=>⟨by omega,(i+1,ns++[n]),⟨h,by simp[hln],F8 h hns hn⟩,by show vs.length-(i+1)<_;omega,?_⟩⟩;rw[wrap_small (by omega) (by omega)];unfold gf;rw[List.map_append];rfl
 ·rw[List.take_of_length_le (by omega)] at hns
  have he:=hend hns;have e1:((gf ns).length:Int)=ns.length:=by rw[hil]
  refine⟨⟨by decide,by omega⟩,fun h1=>?_,fun h1=>⟨⟨by decide,by omega⟩,fun h2=>?_,fun h2=>?_⟩⟩
  ·simp only[Bool.and_eq_true,beq_iff_eq] at h1
   rw[he,if_pos ⟨h1.1,by omega⟩];exact⟨⟨by decide,by omega⟩,rfl⟩
  ·have h1:¬(ws.getD 0 []=[97,100,100]/\ns.length=1):=fun hh=>by
    rw[hh.1,e1,hh.2] at h1;cases h1
   simp only[Bool.and_eq_true,beq_iff_eq] at h2;rw[he,if_neg h1,if_pos ⟨h2.1,by omega⟩];exact⟨⟨by decide,by omega⟩,⟨by decide,by omega⟩,⟨by decide,by omega⟩,rfl⟩
  ·have h1:¬(ws.getD 0 []=[97,100,100]/\ns.length=1):=fun hh=>by
    rw[hh.1,e1,hh.2] at h1;cases h1
   have h2:¬(ws.getD 0 []=[115,101,116]/\ns.length=3):=fun hh=>by
    rw[hh.1,e1,hh.2] at h2;cases h2
   rw[he,if_neg h1,if_neg h2];rfl
def Cf:List Nat:=[0,2,3,4,5,6,7]
def Kd:Sl:=ak Go.Proofs.Tryz.types Go.Proofs.Tryz.f57 Cf []
theorem Sy:aF Go.Proofs.Tryz.prog Go.Proofs.Tryz.f57 Cf Kd 1=true:=by decide +kernel
theorem Vl(s:List UInt8)(hs:s.length<=4294966000):aC Go.Proofs.Tryz.prog 57 [.v (.str s)] (nF (dR s)):=by
 refine aQ Go.Proofs.Tryz.func57 Sy ?_;unfold Kd ak Cf;simp only[go_sem];refine wM (rP s 32 (by omega)) rfl (.inl (jH _)) ?_;have hp:=KJ (p:=[32]) (s:=s);have hl:=mY (p:=[32]) (k:=0) (s:=s);have hm:∀x∈aT [32] 0 s,x.length<=s.length:=fun x hx=>ic hx
 have hend:=@Dz s
 have hbad:∀i,i<((aT [32] 0 s).drop 1).length->bA 9 (((aT [32] 0 s).drop 1).getD i [])=none->dR s=none:=fun i h1 h2=>by
  unfold dR;rw[F6 h1 h2]
 generalize aT [32] 0 s=ws at hp hl hm hend hbad;have hdl:(ws.drop 1).length+1=ws.length:=by rw[List.length_drop];omega
 have hdg:∀i,(ws.drop 1).getD i []=ws.getD (i+1) []:=fun i=>by rw[List.getD_eq_getElem?_getD,List.getElem?_drop,Nat.add_comm 1,<-List.getD_eq_getElem?_getD]
 simp only[go_sem];refine aE [6] (fun(p:Nat×List Nat)=>[(4,.o (ints (gf p.2))),(5,.int .i64 (p.1+1:Nat))]) (fun p=>p.1<=(ws.drop 1).length/\p.2.length=p.1/\iv ((ws.drop 1).take p.1)=some p.2) (fun p=>(ws.drop 1).length-p.1) (0,[]) (by simp only[go_sem];rfl) ⟨Nat.zero_le _,rfl,rfl⟩ rfl ?_;rintro⟨i,ns⟩ ⟨hi,hln,hns⟩;simp only at hi hln hns;simp only[go_sem];have hil:(gf ns).length=ns.length:=by unfold gf;rw[List.length_map]
 refine⟨fun h=>⟨h,?_⟩,fun h=>?_⟩
 ·have hx:=hm _ (rb (d:=[]) h)
  refine av (pX _) rfl (.inl (by cases bA 9 (ws.getD (i+1) [])<;>rfl)) ?_;cases hn:bA 9 (ws.getD (i+1) []) with
  | none =>
   rw[hbad i (by omega) (by rw[hdg];exact hn)];simp only[kL];simp only[go_sem];exact⟨fun _=>rfl,fun h=>absurd (by decide) h⟩
  | some n =>
   simp only[kL];simp only[go_sem];refine⟨fun h=>by omega,fun _=>⟨by omega,(i+1,ns++[n]),⟨by show i+1<=_;omega,by simp[hln],F8 (by omega) hns (by rw[hdg];exact hn)⟩,by show(ws.drop 1).length-(i+1)<_;omega,?_⟩⟩;rw[wrap_small (by omega) (by omega)];unfold gf;rw[List.map_append];rfl
 ·rw[List.take_of_length_le (by omega)] at hns
  have he:=hend hns;have e1:((gf ns).length:Int)=ns.length:=by rw[hil]
  refine⟨⟨by decide,by omega⟩,fun h1=>?_,fun h1=>⟨⟨by decide,by omega⟩,fun h2=>?_,fun h2=>?_⟩⟩
  ·simp only[Bool.and_eq_true,beq_iff_eq] at h1
   rw[he,if_pos ⟨h1.1,by omega⟩];exact⟨⟨by decide,by omega⟩,rfl⟩
  ·have h1:¬(ws.getD 0 []=[97,100,100]/\ns.length=1):=fun hh=>by
    rw[hh.1,e1,hh.2] at h1;cases h1
   simp only[Bool.and_eq_true,beq_iff_eq] at h2;rw[he,if_neg h1,if_pos ⟨h2.1,by omega⟩];exact⟨⟨by decide,by omega⟩,⟨by decide,by omega⟩,⟨by decide,by omega⟩,rfl⟩
  ·have h1:¬(ws.getD 0 []=[97,100,100]/\ns.length=1):=fun hh=>by
    rw[hh.1,e1,hh.2] at h1;cases h1
   have h2:¬(ws.getD 0 []=[115,101,116]/\ns.length=3):=fun hh=>by
    rw[hh.1,e1,hh.2] at h2;cases h2
   rw[he,if_neg h1,if_neg h2];rfl
end Go.D3
