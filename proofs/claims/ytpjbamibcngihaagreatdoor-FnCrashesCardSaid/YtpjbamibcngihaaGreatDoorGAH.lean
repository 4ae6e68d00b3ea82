/- CONTRACTS: the texts of schemas, both sides; words and parts. -/
import Derived.Test.YtpjbamibcngihaaGreatDoorGAD
import Derived.Test.YtpjbamibcngihaaGreatDoorGAG
namespace Go.D3
open Go
set_option maxHeartbeats 4000000
set_option maxRecDepth 100000
set_option maxHeartbeats 1000000
theorem LM{s:List UInt8}:qD s=bytes (s.map fun b=>(b.toNat:Int)):=by unfold qD bytes ae;rw[List.map_map];rfl
theorem wrap_u8{n:Int}(h : 0<=n)(h1:n<256):IntKind.u8.wrap n=n:=by
 rw[iH ⟨by simp only[IntKind.min,IntKind.signed];simpa using h,by simp only[IntKind.max,IntKind.signed,IntKind.bits];simp;omega⟩]
attribute [go_sem] LM
theorem fc{n:Int}(h : 0<=n)(h1:n<=4611686018427387900):(Lib.itoa n).length<=20:=by
 obtain⟨m,rfl⟩:∃m:Nat,n=m:=⟨n.toNat,by omega⟩;rw[Lib.itoa_nonneg];exact DQ m (by omega)
theorem kD{n:Int}(h : 0<=n)(h1:n<=4611686018427387900):aC Go.Proofs.Tryz.prog 55 [.v (.int .i64 n)] (.str (Lib.itoa n)):=by
 obtain⟨m,rfl⟩:∃m:Nat,n=m:=⟨n.toNat,by omega⟩;rw[Lib.itoa_nonneg];exact US m (by omega)
def fw(e:Int):UInt8:=UInt8.ofNat (97+e.toNat)
def U.aL(p:U):List UInt8:=64::(Lib.itoa p.st++p.ed.map fw)
structure dC(p:U):Prop where
 st : 0<=p.st/\p.st<=8
 len:p.ed.length<=6
 ed:∀i,i<p.ed.length->0<=p.ed.getD i 0/\p.ed.getD i 0<8
theorem dC.qd{p:U}(h:dC p):p.aL.length<=40:=by
 have:=fc h.st.1 (by have:=h.st;omega);have:=h.len;unfold U.aL;simp only[List.length_cons,List.length_append,List.length_map];omega
def Av:List Nat:=[0,2,1,3,5,12,13,14]
def Iu:Sl:=ak Go.Proofs.Tryz.types Go.Proofs.Tryz.f105 Av []
theorem QB:aF Go.Proofs.Tryz.prog Go.Proofs.Tryz.f105 Av Iu 1=true:=by decide +kernel
theorem Hy(p:U)(h:dC p):aC Go.Proofs.Tryz.prog 105 [.v (U.d p)] (.str p.aL):=by
 have hlen:=h.len;have hil:=fc h.st.1 (by have:=h.st;omega);refine aQ Go.Proofs.Tryz.func105 QB ?_;unfold Iu ak Av;simp only[go_sem];refine av kE rfl (.inl rfl) ?_;simp only[go_sem];refine⟨by simp only[maxLen];omega,by omega,?_⟩;refine aE [4] (fun(i:Nat)=>[(3,.o (bytes (((64::Lib.itoa p.st).map fun b=>(b.toNat:Int))++(p.ed.take i).map fun e=>97+e))),(7,.int .i64 i)]) (fun i=>i<=p.ed.length) (fun i=>p.ed.length-i) 0 (by simp only[go_sem];rfl) (Nat.zero_le _) (by simp[eU,ej]) ?_;intro i hi;simp only[go_sem];refine⟨fun h1=>⟨h1,?_⟩,fun h1=>?_⟩
 ·have he:=h.ed i h1
  have hw:IntKind.u8.wrap (IntKind.i64.wrap (97+p.ed.getD i 0))=97+p.ed.getD i 0:=by
   rw[wrap_small (by omega) (by omega),wrap_u8 (by omega) (by omega)]
  rw[hw];refine⟨by simp;omega,i+1,h1,by omega,?_⟩;rw[wrap_small (by omega) (by omega),cH h1 0,List.map_append,<-List.append_assoc];rfl
 ·rw[List.take_of_length_le (by omega),List.map_append,List.map_map,List.map_map]
  have e1:(Lib.itoa p.st).map (byteOf ∘ fun b=>(b.toNat:Int))=Lib.itoa p.st:=by
   conv=>rhs;rw[<-List.map_id (Lib.itoa p.st)]
   refine List.map_congr_left fun b _=>?_
   show UInt8.ofNat ((b.toNat:Int)).toNat=b;rw[Int.toNat_natCast,UInt8.ofNat_toNat]
  have e2:p.ed.map (byteOf ∘ fun e=>97+e)=p.ed.map fw:=List.map_congr_left fun e hm=>by
   obtain⟨j,hj,rfl⟩:=List.getElem_of_mem hm;have:=h.ed j hj;rw[aS hj] at this;show UInt8.ofNat (97+p.ed[j]).toNat=UInt8.ofNat (97+p.ed[j].toNat);congr 1;omega
  rw[e1,e2];rfl
theorem Wb{e:Int}(h : 0<=e/\e<8):(([97,98,99,100,101,102,103,104]:List UInt8).take (e+1).toNat).drop e.toNat=[fw e]:=by
 obtain⟨n,rfl⟩:∃n:Nat,e=n:=⟨e.toNat,by omega⟩;rw[show((n:Int)+1).toNat=n+1 by omega,Int.toNat_natCast];unfold fw;rw[Int.toNat_natCast];have:n<8:=by omega
 match n,this with
 | 0,_ | 1,_ | 2,_ | 3,_ | 4,_ | 5,_ | 6,_ | 7,_=>rfl
 | n+8,h=>omega
def B0:List Nat:=[0,2,1,3,4]
def JY:Sl:=ak Go.Proofs.Tryz.types Go.Proofs.Tryz.f79 B0 []
theorem Se:aF Go.Proofs.Tryz.prog Go.Proofs.Tryz.f79 B0 JY 1=true:=by decide +kernel
theorem HZ(p:U)(h:dC p):aC Go.Proofs.Tryz.prog 79 [.v (U.d p)] (.str p.aL):=by
 have hlen:=h.len;have hil:=fc h.st.1 (by have:=h.st;omega);refine aQ Go.Proofs.Tryz.func79 Se ?_;unfold JY ak B0;simp only[go_sem];refine av (kD h.st.1 (by have:=h.st;omega)) rfl (.inl rfl) ?_;simp only[go_sem];refine⟨by simp only[maxLen];omega,?_⟩;refine aE [] (fun(i:Nat)=>[(3,.str (64::(Lib.itoa p.st++(p.ed.take i).map fw))),(4,.int .i64 i)]) (fun i=>i<=p.ed.length) (fun i=>p.ed.length-i) 0 (by simp only[go_sem];rfl) (Nat.zero_le _) (by simp[eU,ej]) ?_;intro i hi;simp only[go_sem];refine⟨fun h1=>?_,fun h1=>by rw[List.take_of_length_le (by omega)];rfl⟩;have he:=h.ed i h1;rw[wrap_small (n:=p.ed.getD i 0+1) (by omega) (by omega)];rw[Wb he];refine⟨h1,h1,by omega,by simp only[maxLen,List.length_append,List.length_map,List.length_take,List.length_cons,List.length_nil];omega,i+1,h1,by omega,?_⟩;rw[wrap_small (by omega) (by omega),cH h1 0,List.map_append,List.append_assoc];rfl
end Go.D3
namespace Go.D3
open Go
set_option maxRecDepth 100000
theorem Ac{s p:List UInt8}(hp:p≠[]):iC s p=aT p 0 s:=by
 unfold iC;rw[Lib.splitB_data];show Lib.splitK p 0 (Lib.count s p) s=_;exact Ws hp s.length (Nat.le_refl _)
theorem zx{s p:List UInt8}(hp:p≠[])(hs:s.length<=4294967000):aC Go.Proofs.Tryz.prog 132 [.v (.str s),.v (.str p)] (dY (aT p 0 s)):=by
 have hp1 : 1<=p.length:=List.length_pos_iff.2 hp;have hl:(iC s p).length<=s.length+1:=by rw[Ac hp];exact mY
 rw[<-Ac hp];refine Vo (by omega) hp1 (fun x hx=>by rw[Ac hp] at hx;have:=ic hx;simp only[maxLen];omega) ?_ (by simp only[maxLen];omega);unfold iC;rw[List.length_map];exact Lib.splitB_all ⟨p.toArray⟩ (by show 1<=p.toArray.size;simpa using hp1) 0 _ _ rfl
def dv(s:List UInt8):List (List UInt8):=if s=[45] then[] else aT [32] 0 s
def A4:List Nat:=[0,2]
def I3:Sl:=ak Go.Proofs.Tryz.types Go.Proofs.Tryz.f134 A4 []
theorem Q9:aF Go.Proofs.Tryz.prog Go.Proofs.Tryz.f134 A4 I3 1=true:=by decide +kernel
theorem HL(s:List UInt8)(hs:s.length<=4294967000):aC Go.Proofs.Tryz.prog 134 [.v (.str s)] (dY (dv s)):=by
 unfold dv;refine aQ Go.Proofs.Tryz.func134 Q9 ?_;unfold I3 ak A4;simp only[go_sem];refine⟨fun h=>by rw[if_pos h],fun h=>av (zx (by decide) hs) rfl (.inl (jH _)) ?_⟩;simp only[go_sem];rw[if_neg (by simpa using h)]
def da(l:List (List UInt8)):List UInt8:=if l=[] then[45] else Lib.join l [32]
def AZ:List Nat:=[0,2]
def IZ:Sl:=ak Go.Proofs.Tryz.types Go.Proofs.Tryz.f107 AZ []
theorem Q5:aF Go.Proofs.Tryz.prog Go.Proofs.Tryz.f107 AZ IZ 1=true:=by decide +kernel
theorem HJ(l:List (List UInt8))(h1:l.length<=140737488355328)(h2:(Lib.join l [32]).length<=140737488355328):aC Go.Proofs.Tryz.prog 107 [.v (dY l)] (.str (da l)):=by
 unfold da;refine aQ Go.Proofs.Tryz.func107 Q5 ?_;unfold IZ ak AZ;simp only[go_sem];refine⟨fun h=>by rw[if_pos (List.length_eq_zero_iff.1 (by omega))],fun h=>av (HM h1 h2) rfl (.inl rfl) ?_⟩;simp only[go_sem];rw[if_neg (by rintro rfl;simp at h)]
def aa.jn(s:aa)(i:Nat):List UInt8:=Lib.itoa (s.fr.getD i 0)++62::Lib.itoa (s.to.getD i 0)
def aa.j8(s:aa)(i:Nat):List UInt8:=(s.lf.getD i U.zero).aL++61::(s.rt.getD i U.zero).aL
def aa.dA(s:aa)(n:Nat):List (List UInt8):=(List.range n).map s.jn
def aa.c6(s:aa)(n:Nat):List (List UInt8):=(List.range n).map s.j8
def aa.aL(s:aa):List UInt8:=Lib.join [Lib.itoa s.nd,da (s.dA s.fr.length),da (s.c6 s.lf.length)] [32,124,32]
structure eN(s:aa):Prop where
 nd : 0<=s.nd/\s.nd<=8
 f8:s.fr.length<=8
 to:s.to.length=s.fr.length
 ed:∀i,i<s.fr.length->(0<=s.fr.getD i 0/\s.fr.getD i 0<8)/\0<=s.to.getD i 0/\s.to.getD i 0<8
 l8:s.lf.length<=8
 rt:s.rt.length=s.lf.length
 eq:∀i,i<s.lf.length->dC (s.lf.getD i U.zero)/\dC (s.rt.getD i U.zero)
theorem Es{fr to:List Int}:∀{l:List Int}{x y:Int},bG fr to x l=some y->∀i,i<l.length->0<=l.getD i 0/\l.getD i 0<fr.length
 | [],_,_,_,i,hi=>by simp at hi
 | e::r,x,y,h,i,hi=>by
  rw[bG] at h;split at h
  ·rename_i hc
   simp only[Bool.and_eq_true,aP,decide_eq_true_eq] at hc;cases i with
   | zero=>exact⟨hc.1.1,by show e<_;omega⟩
   | succ i=>exact Es h i (by simpa using hi)
  ·cases h
theorem cJ{s:aa}(h:s.ok=true):eN s:=by
 obtain⟨h1,h2,h3⟩:=dM h;have hs:=eA h1;have h8:=hs.n8
 have hp:∀{p:U}{y:Int},s.aU p=some y->dC p:=fun {p y} hy=>by
  obtain⟨a1,a2,a3⟩:=s8 hy;exact⟨by omega,a2,fun i hi=>by have:=Es a3 i hi;have:=hs.f8;omega⟩
 refine⟨⟨hs.n0,hs.n8⟩,hs.f8,hs.to,fun i hi=>?_,h2,h3,fun i hi=>?_⟩
 ·have:=ew hs.fr hi
  have:=ew hs.qe (show i<s.to.length by rw[hs.to];exact hi);omega
 ·obtain⟨y,b1,b2,_⟩:=ok_eq h hi
  exact⟨hp b1,hp b2⟩
section
variable{s:aa}(h:eN s)
include h
theorem eN.MG{i:Nat}(hi:i<s.fr.length):(s.jn i).length<=41:=by
 have:=h.ed i hi;have:=fc (n:=s.fr.getD i 0) (by omega) (by omega);have:=fc (n:=s.to.getD i 0) (by omega) (by omega);unfold aa.jn;simp only[List.length_append,List.length_cons];omega
theorem eN.eql{i:Nat}(hi:i<s.lf.length):(s.j8 i).length<=81:=by
 have:=(h.eq i hi).1.qd;have:=(h.eq i hi).2.qd;unfold aa.j8;simp only[List.length_append,List.length_cons];omega
end
theorem join_le{l:List (List UInt8)}{sep:List UInt8}{b:Nat}(h:∀x∈l,x.length<=b):(Lib.join l sep).length<=l.length*(b+sep.length):=by
 cases l with
 | nil=>simp[Lib.join_nil]
 | cons x r =>
  rw[Lib.join_cons]
  have key:∀r:List (List UInt8),(∀x∈r,x.length<=b)->(Lib.joinTail sep r).length<=r.length*(b+sep.length):=by
   intro r;induction r with
   | nil=>intro _;simp[Lib.joinTail]
   | cons y r ih =>
    intro hy;have h1:=ih fun z hz=>hy z (List.mem_cons_of_mem _ hz)
    have h2:=hy y List.mem_cons_self;have e:Lib.joinTail sep (y::r)=(sep++y)++Lib.joinTail sep r:=rfl;rw[e,List.length_append,List.length_append,List.length_cons,Nat.succ_mul];omega
  have h1:=key r fun z hz=>h z (List.mem_cons_of_mem _ hz)
  have h2:=h x List.mem_cons_self;rw[List.length_append,List.length_cons,Nat.succ_mul];omega
theorem uH{l:List (List UInt8)}{b:Nat}(h:∀x∈l,x.length<=b):(da l).length<=l.length*(b+1)+1:=by
 unfold da;split
 ·simp
 ·exact Nat.le_trans (join_le h) (by simp)
theorem DZ{s:aa}{i:Nat}:s.dA (i+1)=s.dA i++[s.jn i]:=by unfold aa.dA;rw[List.range_succ,List.map_append];rfl
theorem Ec{s:aa}{i:Nat}:s.c6 (i+1)=s.c6 i++[s.j8 i]:=by unfold aa.c6;rw[List.range_succ,List.map_append];rfl
theorem qM{s:aa}(h:eN s){n:Nat}(hn:n<=s.fr.length):∀x∈s.dA n,x.length<=41:=fun x hx=>by
 obtain⟨i,hi,rfl⟩:=List.mem_map.1 hx;exact h.MG (by have:=List.mem_range.1 hi;omega)
theorem qQ{s:aa}(h:eN s){n:Nat}(hn:n<=s.lf.length):∀x∈s.c6 n,x.length<=81:=fun x hx=>by
 obtain⟨i,hi,rfl⟩:=List.mem_map.1 hx;exact h.eql (by have:=List.mem_range.1 hi;omega)
theorem gT{s:aa}{n:Nat}:(s.dA n).length=n:=by simp[aa.dA]
theorem jq{s:aa}{n:Nat}:(s.c6 n).length=n:=by simp[aa.c6]
theorem sd{s:aa}(h:eN s):s.aL.length<=3400:=by
 have h0:=fc h.nd.1 (by have:=h.nd;omega);have h1:=uH (qM h (Nat.le_refl _));have h2:=uH (qQ h (Nat.le_refl _));rw[gT] at h1;rw[jq] at h2;have:=h.f8;have:=h.l8;unfold aa.aL;rw[nV,nV,Lib.join_one];simp only[List.length_append,List.length_cons,List.length_nil];omega
def AE:List Nat:=[0,2,3,4,5,6,13,14,43,44]
def IC:Sl:=ak Go.Proofs.Tryz.types Go.Proofs.Tryz.f78 AE []
theorem QJ:aF Go.Proofs.Tryz.prog Go.Proofs.Tryz.f78 AE IC 1=true:=by decide +kernel
theorem HB(s:aa)(h:eN s):aC Go.Proofs.Tryz.prog 78 [.v (.ptr s.cells)] (.str s.aL):=by
 have hf8:=h.f8;have hl8:=h.l8;have hto:=h.to;have hrt:=h.rt;refine aQ Go.Proofs.Tryz.func78 QJ ?_;unfold IC ak AE;simp only[go_sem];refine aE [4] (fun(i:Nat)=>[(2,.o (dY (s.dA i))),(7,.int .i64 i)]) (fun i=>i<=s.fr.length) (fun i=>s.fr.length-i) 0 (by simp only[go_sem];rfl) (Nat.zero_le _) rfl ?_;intro i hi;simp only[go_sem];refine⟨fun h1=>⟨h1,av kE rfl (.inl rfl) ?_⟩,fun h1=>?_⟩
 ·simp only[go_sem]
  obtain⟨⟨a0,a1⟩,b0,b1⟩:=h.ed i h1;have l1:=fc a0 (by omega);have l2:=fc b0 (by omega);refine⟨by simp only[maxLen];omega,by omega,av kE rfl (.inl rfl) ?_⟩;simp only[go_sem];refine⟨by rw[List.length_append];simp only[maxLen,List.length_cons,List.length_nil];omega,by rw[gT];omega,i+1,h1,by omega,?_⟩;rw[wrap_small (by omega) (by omega),DZ,List.append_assoc];rfl
 ·rw[show i=s.fr.length by omega]
  have nvp:∀p:U,(D.str p.aL).ba=true:=fun _=>rfl
  refine aE [5] (fun(i:Nat)=>[(3,.o (dY (s.c6 i))),(9,.int .i64 i)]) (fun i=>i<=s.lf.length) (fun i=>s.lf.length-i) 0 (by simp only[go_sem];rfl) (Nat.zero_le _) rfl ?_;intro i hi;simp only[go_sem];refine⟨fun h1=>?_,fun h1=>?_⟩
  ·obtain⟨p1,p2⟩:=h.eq i h1
   have l1:=p1.qd;have l2:=p2.qd;refine⟨h1,av (Hy _ p1) rfl (.inl rfl) ?_⟩;simp only[go_sem];refine⟨by simp only[maxLen];omega,by omega,av (Hy _ p2) rfl (.inl rfl) ?_⟩;simp only[go_sem];refine⟨by rw[List.length_append];simp only[maxLen,List.length_cons,List.length_nil];omega,by rw[jq];omega,i+1,h1,by omega,?_⟩;rw[wrap_small (by omega) (by omega),Ec,List.append_assoc];rfl
  ·rw[show i=s.lf.length by omega]
   have e1:=uH (qM h (Nat.le_refl _));have e2:=uH (qQ h (Nat.le_refl _));have j1:=join_le (sep:=[32]) (qM h (Nat.le_refl _));have j2:=join_le (sep:=[32]) (qQ h (Nat.le_refl _));have ht:=sd h;rw[gT] at e1 j1;rw[jq] at e2 j2;simp only[List.length_cons,List.length_nil] at j1 j2;refine av kE rfl (.inl rfl) ?_;simp only[go_sem];refine av (HJ _ (by rw[gT];omega) (by omega)) rfl (.inl rfl) ?_;simp only[go_sem];refine av (HJ _ (by rw[jq];omega) (by omega)) rfl (.inl rfl) ?_;simp only[go_sem];refine av (HM (l:=[_,_,_]) (by simp) (by unfold aa.aL at ht;omega)) rfl (.inl rfl) ?_;simp only[go_sem];rfl
def iL(l:List (List UInt8)):List UInt8:=(l.map fun x=>32::x).flatten
theorem L5{l:List (List UInt8)}:iL l=if l=[] then[] else 32::Lib.join l [32]:=by
 cases l with
 | nil=>rfl
 | cons x r=>rw[if_neg (by simp),Lib.join_cons];rfl
theorem Ds{l:List (List UInt8)}{x:List UInt8}:iL (l++[x])=iL l++32::x:=by unfold iL;simp
theorem sU{l:List (List UInt8)}{b:Nat}(h:∀x∈l,x.length<=b):(iL l).length<=l.length*(b+1):=by
 induction l with
 | nil=>simp[iL]
 | cons x l ih =>
  have h1:=ih fun y hy=>h y (List.mem_cons_of_mem _ hy)
  have h2:=h x List.mem_cons_self;have e:iL (x::l)=(32::x)++iL l:=rfl;rw[e,List.length_append,List.length_cons,List.length_cons,Nat.succ_mul];omega
theorem Dr{l:List (List UInt8)}:(if iL l=[] then[32,45] else iL l)=32::da l:=by
 rw[L5];unfold da;by_cases h:l=[]
 ·subst h;rfl
 ·rw[if_neg h,if_neg h,if_neg (by simp)]
theorem W6{s:aa}:s.aL=Lib.itoa s.nd++[32,124]++32::da (s.dA s.fr.length)++[32,124]++32::da (s.c6 s.lf.length):=by
 unfold aa.aL;rw[nV,nV,Lib.join_one];simp
def B2:List Nat:=[0,2,1,3,4,5,6]
def J0:Sl:=ak Go.Proofs.Tryz.types Go.Proofs.Tryz.f49 B2 []
theorem Si:aF Go.Proofs.Tryz.prog Go.Proofs.Tryz.f49 B2 J0 1=true:=by decide +kernel
theorem zw(s:aa)(h:eN s):aC Go.Proofs.Tryz.prog 49 [.v (aa.d s)] (.str s.aL):=by
 have hf8:=h.f8;have hl8:=h.l8;have hto:=h.to;have hrt:=h.rt;refine aQ Go.Proofs.Tryz.func49 Si ?_;unfold J0 ak B2;simp only[go_sem];refine aE [] (fun(i:Nat)=>[(3,.str (iL (s.dA i))),(5,.int .i64 i)]) (fun i=>i<=s.fr.length) (fun i=>s.fr.length-i) 0 (by simp only[go_sem];rfl) (Nat.zero_le _) rfl ?_;intro i hi;simp only[go_sem];have hc:=sU (qM h hi);rw[gT] at hc;refine⟨fun h1=>?_,fun h1=>?_⟩
 ·obtain⟨⟨a0,a1⟩,b0,b1⟩:=h.ed i h1
  have l1:=fc a0 (by omega);have l2:=fc b0 (by omega);refine⟨by simp only[maxLen];omega,h1,av (kD a0 (by omega)) rfl (.inl rfl) ?_⟩;simp only[go_sem];refine⟨by rw[List.length_append];simp only[maxLen,List.length_cons,List.length_nil];omega,by simp only[List.length_append,maxLen,List.length_cons,List.length_nil];omega,by omega,av (kD b0 (by omega)) rfl (.inl rfl) ?_⟩;simp only[go_sem];refine⟨by simp only[List.length_append,maxLen,List.length_cons,List.length_nil];omega,i+1,h1,by omega,?_⟩;rw[wrap_small (by omega) (by omega),DZ,Ds];unfold aa.jn;simp only[List.append_assoc,List.cons_append,List.nil_append];rfl
 ·rw[show i=s.fr.length by omega]
  refine aE [] (fun(i:Nat)=>[(4,.str (iL (s.c6 i))),(6,.int .i64 i)]) (fun i=>i<=s.lf.length) (fun i=>s.lf.length-i) 0 (by simp only[go_sem];rfl) (Nat.zero_le _) rfl ?_;intro i hi;simp only[go_sem];have hc2:=sU (qQ h hi);rw[jq] at hc2;refine⟨fun h1=>?_,fun h1=>?_⟩
  ·obtain⟨p1,p2⟩:=h.eq i h1
   have l1:=p1.qd;have l2:=p2.qd;refine⟨by simp only[maxLen];omega,h1,av (HZ _ p1) rfl (.inl rfl) ?_⟩;simp only[go_sem];refine⟨by rw[List.length_append];simp only[maxLen,List.length_cons,List.length_nil];omega,by simp only[List.length_append,maxLen,List.length_cons,List.length_nil];omega,by omega,av (HZ _ p2) rfl (.inl rfl) ?_⟩;simp only[go_sem];refine⟨by simp only[List.length_append,maxLen,List.length_cons,List.length_nil];omega,i+1,h1,by omega,?_⟩;rw[wrap_small (by omega) (by omega),Ec,Ds];unfold aa.j8;simp only[List.append_assoc,List.cons_append,List.nil_append];rfl
  ·rw[show i=s.lf.length by omega]
   have e1:=sU (qM h (Nat.le_refl _));have e2:=sU (qQ h (Nat.le_refl _));rw[gT] at e1;rw[jq] at e2;have l0:=fc h.nd.1 (by have:=h.nd;omega);have q1:=Dr (l:=s.dA s.fr.length);have q2:=Dr (l:=s.c6 s.lf.length);rw[W6,<-q1,<-q2];refine⟨fun h1=>⟨fun h2=>?_,fun h2=>?_⟩,fun h1=>⟨fun h2=>?_,fun h2=>?_⟩⟩
   all_goals
    refine av (kD h.nd.1 (by have:=h.nd;omega)) rfl (.inl rfl) ?_;simp only[go_sem]
   ·rw[if_pos h1,if_pos h2]
    exact⟨by simp only[maxLen];omega,by simp only[List.length_append,maxLen,List.length_cons,List.length_nil];omega,by simp only[List.length_append,maxLen,List.length_cons,List.length_nil];omega,by simp only[List.length_append,maxLen,List.length_cons,List.length_nil];omega,rfl⟩
   ·rw[if_pos h1,if_neg (by simpa using h2)]
    exact⟨by simp only[maxLen];omega,by simp only[List.length_append,maxLen,List.length_cons,List.length_nil];omega,by simp only[List.length_append,maxLen,List.length_cons,List.length_nil];omega,by simp only[List.length_append,maxLen,List.length_cons,List.length_nil];omega,rfl⟩
   ·rw[if_neg (by simpa using h1),if_pos h2]
    exact⟨by simp only[maxLen];omega,by simp only[List.length_append,maxLen,List.length_cons,List.length_nil];omega,by simp only[List.length_append,maxLen,List.length_cons,List.length_nil];omega,by simp only[List.length_append,maxLen,List.length_cons,List.length_nil];omega,rfl⟩
   ·rw[if_neg (by simpa using h1),if_neg (by simpa using h2)]
    exact⟨by simp only[maxLen];omega,by simp only[List.length_append,maxLen,List.length_cons,List.length_nil];omega,by simp only[List.length_append,maxLen,List.length_cons,List.length_nil];omega,by simp only[List.length_append,maxLen,List.length_cons,List.length_nil];omega,rfl⟩
end Go.D3
