/- CONTRACTS: the texts of schemas,both sides;words and parts. -/
import Derived.Test.YtpjbamibcngihaaGreatDoorGAD
import Derived.Test.YtpjbamibcngihaaGreatDoorGAG
namespace Go.D3
open Go
set_option maxHeartbeats 4000000
set_option maxRecDepth 100000
set_option maxHeartbeats 1000000
theorem Uv{s:List UInt8}:re s=bytes (s.map fun b=>(b.toNat:Int)):=by unfold re bytes ae;rw[List.map_map];rfl
theorem wrap_u8{n:Int}(h : 0<=n)(h1:n<256):IntKind.u8.wrap n=n:=by
 rw[gT ⟨by simp only[IntKind.min,IntKind.signed];simpa using h,by simp only[IntKind.max,IntKind.signed,IntKind.bits];simp;omega⟩]
attribute [go_sem] Uv
theorem fv{n:Int}(h : 0<=n)(h1:n<=4611686018427387900):(Lib.itoa n).length<=20:=by
 obtain⟨m,rfl⟩:∃m:Nat,n=m:=⟨n.toNat,by omega⟩;rw[Lib.itoa_nonneg];exact HE m (by omega)
theorem jR{n:Int}(h : 0<=n)(h1:n<=4611686018427387900):aC Go.Proofs.Tryz.prog 55 [.v (.int .i64 n)] (.str (Lib.itoa n)):=by
 obtain⟨m,rfl⟩:∃m:Nat,n=m:=⟨n.toNat,by omega⟩;rw[Lib.itoa_nonneg];exact Mt m (by omega)
def fh(e:Int):UInt8:=UInt8.ofNat (97+e.toNat)
def U.aM(p:U):List UInt8:=64::(Lib.itoa p.st++p.ed.map fh)
structure dC(p:U):Prop where
 st : 0<=p.st/\p.st<=8
 len:p.ed.length<=6
 ed:∀i,i<p.ed.length->0<=p.ed.getD i 0/\p.ed.getD i 0<8
theorem dC.pN{p:U}(h:dC p):p.aM.length<=40:=by
 have:=fv h.st.1 (by have:=h.st;omega);have:=h.len;unfold U.aM;simp only[List.length_cons,List.length_append,List.length_map];omega
def wq:List Nat:=[0,2,1,3,5,12,13,14]
def CB:Sl:=ak Go.Proofs.Tryz.types Go.Proofs.Tryz.f105 wq []
theorem Lf:aI Go.Proofs.Tryz.prog Go.Proofs.Tryz.f105 wq CB 1=true:=by decide +kernel
theorem B4(p:U)(h:dC p):aC Go.Proofs.Tryz.prog 105 [.v (U.d p)] (.str p.aM):=by
 have hlen:=h.len;have hil:=fv h.st.1 (by have:=h.st;omega);refine aT Go.Proofs.Tryz.func105 Lf ?_;unfold CB ak wq;simp only[go_sem];refine ax oS rfl (.inl rfl) ?_;simp only[go_sem];refine⟨by simp only[maxLen];omega,by omega,?_⟩;refine aG [4] (fun(i:Nat)=>[(3,.o (bytes (((64::Lib.itoa p.st).map fun b=>(b.toNat:Int))++(p.ed.take i).map fun e=>97+e))),(7,.int .i64 i)]) (fun i=>i<=p.ed.length) (fun i=>p.ed.length-i) 0 (by simp only[go_sem];rfl) (Nat.zero_le _) (by simp[cM,ei]) ?_;intro i hi;simp only[go_sem];refine⟨fun h1=>⟨h1,?_⟩,fun h1=>?_⟩
 ·have he:=h.ed i h1
  have hw:IntKind.u8.wrap (IntKind.i64.wrap (97+p.ed.getD i 0))=97+p.ed.getD i 0:=by
   rw[wrap_small (by omega) (by omega),wrap_u8 (by omega) (by omega)]
  rw[hw];refine⟨by simp;omega,i+1,h1,by omega,?_⟩;rw[wrap_small (by omega) (by omega),cV h1 0,List.map_append,<-List.append_assoc];rfl
 ·rw[List.take_of_length_le (by omega),List.map_append,List.map_map,List.map_map]
  have e1:(Lib.itoa p.st).map (byteOf ∘ fun b=>(b.toNat:Int))=Lib.itoa p.st:=by
   conv=>rhs;rw[<-List.map_id (Lib.itoa p.st)]
   refine List.map_congr_left fun b _=>?_
   show UInt8.ofNat ((b.toNat:Int)).toNat=b;rw[Int.toNat_natCast,UInt8.ofNat_toNat]
  have e2:p.ed.map (byteOf ∘ fun e=>97+e)=p.ed.map fh:=List.map_congr_left fun e hm=>by
   obtain⟨j,hj,rfl⟩:=List.getElem_of_mem hm;have:=h.ed j hj;rw[aS hj] at this;show UInt8.ofNat (97+p.ed[j]).toNat=UInt8.ofNat (97+p.ed[j].toNat);congr 1;omega
  rw[e1,e2];rfl
theorem PZ{e:Int}(h : 0<=e/\e<8):(([97,98,99,100,101,102,103,104]:List UInt8).take (e+1).toNat).drop e.toNat=[fh e]:=by
 obtain⟨n,rfl⟩:∃n:Nat,e=n:=⟨e.toNat,by omega⟩;rw[show((n:Int)+1).toNat=n+1 by omega,Int.toNat_natCast];unfold fh;rw[Int.toNat_natCast];have:n<8:=by omega
 match n,this with
 | 0,_ | 1,_ | 2,_ | 3,_ | 4,_ | 5,_ | 6,_ | 7,_=>rfl
 | n+8,h=>omega
def wW:List Nat:=[0,2,1,3,4]
def Da:Sl:=ak Go.Proofs.Tryz.types Go.Proofs.Tryz.f79 wW []
theorem L6:aI Go.Proofs.Tryz.prog Go.Proofs.Tryz.f79 wW Da 1=true:=by decide +kernel
theorem Cq(p:U)(h:dC p):aC Go.Proofs.Tryz.prog 79 [.v (U.d p)] (.str p.aM):=by
 have hlen:=h.len;have hil:=fv h.st.1 (by have:=h.st;omega);refine aT Go.Proofs.Tryz.func79 L6 ?_;unfold Da ak wW;simp only[go_sem];refine ax (jR h.st.1 (by have:=h.st;omega)) rfl (.inl rfl) ?_;simp only[go_sem];refine⟨by simp only[maxLen];omega,?_⟩;refine aG [] (fun(i:Nat)=>[(3,.str (64::(Lib.itoa p.st++(p.ed.take i).map fh))),(4,.int .i64 i)]) (fun i=>i<=p.ed.length) (fun i=>p.ed.length-i) 0 (by simp only[go_sem];rfl) (Nat.zero_le _) (by simp[cM,ei]) ?_;intro i hi;simp only[go_sem];refine⟨fun h1=>?_,fun h1=>by rw[List.take_of_length_le (by omega)];rfl⟩;have he:=h.ed i h1;rw[wrap_small (n:=p.ed.getD i 0+1) (by omega) (by omega)];rw[PZ he];refine⟨h1,h1,by omega,by simp only[maxLen,List.length_append,List.length_map,List.length_take,List.length_cons,List.length_nil];omega,i+1,h1,by omega,?_⟩;rw[wrap_small (by omega) (by omega),cV h1 0,List.map_append,List.append_assoc];rfl
end Go.D3
namespace Go.D3
open Go
set_option maxRecDepth 100000
theorem yL{s p:List UInt8}(hp:p≠[]):gW s p=aR p 0 s:=by
 unfold gW;rw[Lib.splitB_data];show Lib.splitK p 0 (Lib.count s p) s=_;exact NS hp s.length (Nat.le_refl _)
theorem Af{s p:List UInt8}(hp:p≠[])(hs:s.length<=4294967000):aC Go.Proofs.Tryz.prog 132 [.v (.str s),.v (.str p)] (dR (aR p 0 s)):=by
 have hp1 : 1<=p.length:=List.length_pos_iff.2 hp;have hl:(gW s p).length<=s.length+1:=by rw[yL hp];exact lS
 rw[<-yL hp];refine P5 (by omega) hp1 (fun x hx=>by rw[yL hp] at hx;have:=gG hx;simp only[maxLen];omega) ?_ (by simp only[maxLen];omega);unfold gW;rw[List.length_map];exact Lib.splitB_all ⟨p.toArray⟩ (by show 1<=p.toArray.size;simpa using hp1) 0 _ _ rfl
def c8(s:List UInt8):List (List UInt8):=if s=[45] then[] else aR [32] 0 s
def xI:List Nat:=[0,2]
def DS:Sl:=ak Go.Proofs.Tryz.types Go.Proofs.Tryz.f134 xI []
theorem MP:aI Go.Proofs.Tryz.prog Go.Proofs.Tryz.f134 xI DS 1=true:=by decide +kernel
theorem Du(s:List UInt8)(hs:s.length<=4294967000):aC Go.Proofs.Tryz.prog 134 [.v (.str s)] (dR (c8 s)):=by
 unfold c8;refine aT Go.Proofs.Tryz.func134 MP ?_;unfold DS ak xI;simp only[go_sem];refine⟨fun h=>by rw[if_pos h],fun h=>ax (Af (by decide) hs) rfl (.inl (iX _)) ?_⟩;simp only[go_sem];rw[if_neg (by simpa using h)]
def cQ(l:List (List UInt8)):List UInt8:=if l=[] then[45] else Lib.join l [32]
def xQ:List Nat:=[0,2]
def Em:Sl:=ak Go.Proofs.Tryz.types Go.Proofs.Tryz.f107 xQ []
theorem Ni:aI Go.Proofs.Tryz.prog Go.Proofs.Tryz.f107 xQ Em 1=true:=by decide +kernel
theorem DF(l:List (List UInt8))(h1:l.length<=140737488355328)(h2:(Lib.join l [32]).length<=140737488355328):aC Go.Proofs.Tryz.prog 107 [.v (dR l)] (.str (cQ l)):=by
 unfold cQ;refine aT Go.Proofs.Tryz.func107 Ni ?_;unfold Em ak xQ;simp only[go_sem];refine⟨fun h=>by rw[if_pos (List.length_eq_zero_iff.1 (by omega))],fun h=>ax (F6 h1 h2) rfl (.inl rfl) ?_⟩;simp only[go_sem];rw[if_neg (by rintro rfl;simp at h)]
def aa.jF(s:aa)(i:Nat):List UInt8:=Lib.itoa (s.fr.getD i 0)++62::Lib.itoa (s.to.getD i 0)
def aa.ku(s:aa)(i:Nat):List UInt8:=(s.lf.getD i U.zero).aM++61::(s.rt.getD i U.zero).aM
def aa.dx(s:aa)(n:Nat):List (List UInt8):=(List.range n).map s.jF
def aa.cU(s:aa)(n:Nat):List (List UInt8):=(List.range n).map s.ku
def aa.aM(s:aa):List UInt8:=Lib.join [Lib.itoa s.nd,cQ (s.dx s.fr.length),cQ (s.cU s.lf.length)] [32,124,32]
structure fa(s:aa):Prop where
 nd : 0<=s.nd/\s.nd<=8
 f8:s.fr.length<=8
 to:s.to.length=s.fr.length
 ed:∀i,i<s.fr.length->(0<=s.fr.getD i 0/\s.fr.getD i 0<8)/\0<=s.to.getD i 0/\s.to.getD i 0<8
 l8:s.lf.length<=8
 rt:s.rt.length=s.lf.length
 eq:∀i,i<s.lf.length->dC (s.lf.getD i U.zero)/\dC (s.rt.getD i U.zero)
theorem FB{fr to:List Int}:∀{l:List Int}{x y:Int},bD fr to x l=some y->∀i,i<l.length->0<=l.getD i 0/\l.getD i 0<fr.length
 | [],_,_,_,i,hi=>by simp at hi
 | e::r,x,y,h,i,hi=>by
  rw[bD] at h;split at h
  ·rename_i hc
   simp only[Bool.and_eq_true,aL,decide_eq_true_eq] at hc;cases i with
   | zero=>exact⟨hc.1.1,by show e<_;omega⟩
   | succ i=>exact FB h i (by simpa using hi)
  ·cases h
theorem cJ{s:aa}(h:s.ok=true):fa s:=by
 obtain⟨h1,h2,h3⟩:=eK h;have hs:=eQ h1;have h8:=hs.n8
 have hp:∀{p:U}{y:Int},s.aU p=some y->dC p:=fun {p y} hy=>by
  obtain⟨a1,a2,a3⟩:=tp hy;exact⟨by omega,a2,fun i hi=>by have:=FB a3 i hi;have:=hs.f8;omega⟩
 refine⟨⟨hs.n0,hs.n8⟩,hs.f8,hs.to,fun i hi=>?_,h2,h3,fun i hi=>?_⟩
 ·have:=dJ hs.fr hi
  have:=dJ hs.pT (show i<s.to.length by rw[hs.to];exact hi);omega
 ·obtain⟨y,b1,b2,_⟩:=ok_eq h hi
  exact⟨hp b1,hp b2⟩
section
variable{s:aa}(h:fa s)
include h
theorem fa.Ws{i:Nat}(hi:i<s.fr.length):(s.jF i).length<=41:=by
 have:=h.ed i hi;have:=fv (n:=s.fr.getD i 0) (by omega) (by omega);have:=fv (n:=s.to.getD i 0) (by omega) (by omega);unfold aa.jF;simp only[List.length_append,List.length_cons];omega
theorem fa.eql{i:Nat}(hi:i<s.lf.length):(s.ku i).length<=81:=by
 have:=(h.eq i hi).1.pN;have:=(h.eq i hi).2.pN;unfold aa.ku;simp only[List.length_append,List.length_cons];omega
end
theorem join_le{l:List (List UInt8)}{sep:List UInt8}{b:Nat}(h:∀x∈l,x.length<=b):(Lib.join l sep).length<=l.length*(b+sep.length):=by
 cases l with
 | nil=>simp[Lib.join_nil]
 | cons x r =>
  rw[Lib.join_cons]
  have key:∀r:List (List UInt8),(∀x∈r,x.length<=b)->(Lib.joinTail sep r).length<=r.length*(b+sep.length):=by
   intro r;induction r with
   | nil=>intro _;simp[Lib.joinTail]
   | cons y r ih =>
    intro hy;have h1:=ih fun z hz=>hy z (List.mem_cons_of_mem _ hz)
    have h2:=hy y List.mem_cons_self;have e:Lib.joinTail sep (y::r)=(sep++y)++Lib.joinTail sep r:=rfl;rw[e,List.length_append,List.length_append,List.length_cons,Nat.succ_mul];omega
  have h1:=key r fun z hz=>h z (List.mem_cons_of_mem _ hz)
  have h2:=h x List.mem_cons_self;rw[List.length_append,List.length_cons,Nat.succ_mul];omega
theorem tQ{l:List (List UInt8)}{b:Nat}(h:∀x∈l,x.length<=b):(cQ l).length<=l.length*(b+1)+1:=by
 unfold cQ;split
 ·simp
 ·exact Nat.le_trans (join_le h) (by simp)
theorem G6{s:aa}{i:Nat}:s.dx (i+1)=s.dx i++[s.jF i]:=by unfold aa.dx;rw[List.range_succ,List.map_append];rfl
theorem Hv{s:aa}{i:Nat}:s.cU (i+1)=s.cU i++[s.ku i]:=by unfold aa.cU;rw[List.range_succ,List.map_append];rfl
theorem ra{s:aa}(h:fa s){n:Nat}(hn:n<=s.fr.length):∀x∈s.dx n,x.length<=41:=fun x hx=>by
 obtain⟨i,hi,rfl⟩:=List.mem_map.1 hx;exact h.Ws (by have:=List.mem_range.1 hi;omega)
theorem qZ{s:aa}(h:fa s){n:Nat}(hn:n<=s.lf.length):∀x∈s.cU n,x.length<=81:=fun x hx=>by
 obtain⟨i,hi,rfl⟩:=List.mem_map.1 hx;exact h.eql (by have:=List.mem_range.1 hi;omega)
theorem gI{s:aa}{n:Nat}:(s.dx n).length=n:=by simp[aa.dx]
theorem iZ{s:aa}{n:Nat}:(s.cU n).length=n:=by simp[aa.cU]
theorem Sn{s:aa}(h:fa s):s.aM.length<=3400:=by
 have h0:=fv h.nd.1 (by have:=h.nd;omega);have h1:=tQ (ra h (Nat.le_refl _));have h2:=tQ (qZ h (Nat.le_refl _));rw[gI] at h1;rw[iZ] at h2;have:=h.f8;have:=h.l8;unfold aa.aM;rw[nC,nC,Lib.join_one];simp only[List.length_append,List.length_cons,List.length_nil];omega
def vR:List Nat:=[0,2,3,4,5,6,13,14,43,44]
def B1:Sl:=ak Go.Proofs.Tryz.types Go.Proofs.Tryz.f78 vR []
theorem KG:aI Go.Proofs.Tryz.prog Go.Proofs.Tryz.f78 vR B1 1=true:=by decide +kernel
theorem Ks(s:aa)(h:fa s):aC Go.Proofs.Tryz.prog 78 [.v (.ptr s.cells)] (.str s.aM):=by
 have hf8:=h.f8;have hl8:=h.l8;have hto:=h.to;have hrt:=h.rt;refine aT Go.Proofs.Tryz.func78 KG ?_;unfold B1 ak vR;simp only[go_sem];refine aG [4] (fun(i:Nat)=>[(2,.o (dR (s.dx i))),(7,.int .i64 i)]) (fun i=>i<=s.fr.length) (fun i=>s.fr.length-i) 0 (by simp only[go_sem];rfl) (Nat.zero_le _) rfl ?_;intro i hi;simp only[go_sem];refine⟨fun h1=>⟨h1,ax oS rfl (.inl rfl) ?_⟩,fun h1=>?_⟩
 ·simp only[go_sem]
  obtain⟨⟨a0,a1⟩,b0,b1⟩:=h.ed i h1;have l1:=fv a0 (by omega);have l2:=fv b0 (by omega);refine⟨by simp only[maxLen];omega,by omega,ax oS rfl (.inl rfl) ?_⟩;simp only[go_sem];refine⟨by rw[List.length_append];simp only[maxLen,List.length_cons,List.length_nil];omega,by rw[gI];omega,i+1,h1,by omega,?_⟩;rw[wrap_small (by omega) (by omega),G6,List.append_assoc];rfl
 ·rw[show i=s.fr.length by omega]
  have nvp:∀p:U,(D.str p.aM).bl=true:=fun _=>rfl
  refine aG [5] (fun(i:Nat)=>[(3,.o (dR (s.cU i))),(9,.int .i64 i)]) (fun i=>i<=s.lf.length) (fun i=>s.lf.length-i) 0 (by simp only[go_sem];rfl) (Nat.zero_le _) rfl ?_;intro i hi;simp only[go_sem];refine⟨fun h1=>?_,fun h1=>?_⟩
  ·obtain⟨p1,p2⟩:=h.eq i h1
   have l1:=p1.pN;have l2:=p2.pN;refine⟨h1,ax (B4 _ p1) rfl (.inl rfl) ?_⟩;simp only[go_sem];refine⟨by simp only[maxLen];omega,by omega,ax (B4 _ p2) rfl (.inl rfl) ?_⟩;simp only[go_sem];refine⟨by rw[List.length_append];simp only[maxLen,List.length_cons,List.length_nil];omega,by rw[iZ];omega,i+1,h1,by omega,?_⟩;rw[wrap_small (by omega) (by omega),Hv,List.append_assoc];rfl
  ·rw[show i=s.lf.length by omega]
   have e1:=tQ (ra h (Nat.le_refl _));have e2:=tQ (qZ h (Nat.le_refl _));have j1:=join_le (sep:=[32]) (ra h (Nat.le_refl _));have j2:=join_le (sep:=[32]) (qZ h (Nat.le_refl _));have ht:=Sn h;rw[gI] at e1 j1;rw[iZ] at e2 j2;simp only[List.length_cons,List.length_nil] at j1 j2;refine ax oS rfl (.inl rfl) ?_;simp only[go_sem];refine ax (DF _ (by rw[gI];omega) (by omega)) rfl (.inl rfl) ?_;simp only[go_sem];refine ax (DF _ (by rw[iZ];omega) (by omega)) rfl (.inl rfl) ?_;simp only[go_sem];refine ax (F6 (l:=[_,_,_]) (by simp) (by unfold aa.aM at ht;omega)) rfl (.inl rfl) ?_;simp only[go_sem];rfl
def iM(l:List (List UInt8)):List UInt8:=(l.map fun x=>32::x).flatten
theorem QF{l:List (List UInt8)}:iM l=if l=[] then[] else 32::Lib.join l [32]:=by
 cases l with
 | nil=>rfl
 | cons x r=>rw[if_neg (by simp),Lib.join_cons];rfl
theorem Hb{l:List (List UInt8)}{x:List UInt8}:iM (l++[x])=iM l++32::x:=by unfold iM;simp
theorem uk{l:List (List UInt8)}{b:Nat}(h:∀x∈l,x.length<=b):(iM l).length<=l.length*(b+1):=by
 induction l with
 | nil=>simp[iM]
 | cons x l ih =>
  have h1:=ih fun y hy=>h y (List.mem_cons_of_mem _ hy)
  have h2:=h x List.mem_cons_self;have e:iM (x::l)=(32::x)++iM l:=rfl;rw[e,List.length_append,List.length_cons,List.length_cons,Nat.succ_mul];omega
theorem Gp{l:List (List UInt8)}:(if iM l=[] then[32,45] else iM l)=32::cQ l:=by
 rw[QF];unfold cQ;by_cases h:l=[]
 ·subst h;rfl
 ·rw[if_neg h,if_neg h,if_neg (by simp)]
theorem SN{s:aa}:s.aM=Lib.itoa s.nd++[32,124]++32::cQ (s.dx s.fr.length)++[32,124]++32::cQ (s.cU s.lf.length):=by
 unfold aa.aM;rw[nC,nC,Lib.join_one];simp
def wQ:List Nat:=[0,2,1,3,4,5,6]
def C0:Sl:=ak Go.Proofs.Tryz.types Go.Proofs.Tryz.f49 wQ []
theorem Lu:aI Go.Proofs.Tryz.prog Go.Proofs.Tryz.f49 wQ C0 1=true:=by decide +kernel
theorem Cc(s:aa)(h:fa s):aC Go.Proofs.Tryz.prog 49 [.v (aa.d s)] (.str s.aM):=by
 have hf8:=h.f8;have hl8:=h.l8;have hto:=h.to;have hrt:=h.rt;refine aT Go.Proofs.Tryz.func49 Lu ?_;unfold C0 ak wQ;simp only[go_sem];refine aG [] (fun(i:Nat)=>[(3,.str (iM (s.dx i))),(5,.int .i64 i)]) (fun i=>i<=s.fr.length) (fun i=>s.fr.length-i) 0 (by simp only[go_sem];rfl) (Nat.zero_le _) rfl ?_;intro i hi;simp only[go_sem];have hc:=uk (ra h hi);rw[gI] at hc;refine⟨fun h1=>?_,fun h1=>?_⟩
 ·obtain⟨⟨a0,a1⟩,b0,b1⟩:=h.ed i h1
  have l1:=fv a0 (by omega);have l2:=fv b0 (by omega);refine⟨by simp only[maxLen];omega,h1,ax (jR a0 (by omega)) rfl (.inl rfl) ?_⟩;simp only[go_sem];refine⟨by rw[List.length_append];simp only[maxLen,List.length_cons,List.length_nil];omega,by simp only[List.length_append,maxLen,List.length_cons,List.length_nil];omega,by omega,ax (jR b0 (by omega)) rfl (.inl rfl) ?_⟩;simp only[go_sem];refine⟨by simp only[List.length_append,maxLen,List.length_cons,List.length_nil];omega,i+1,h1,by omega,?_⟩;rw[wrap_small (by omega) (by omega),G6,Hb];unfold aa.jF;simp only[List.append_assoc,List.cons_append,List.nil_append];rfl
 ·rw[show i=s.fr.length by omega]
  refine aG [] (fun(i:Nat)=>[(4,.str (iM (s.cU i))),(6,.int .i64 i)]) (fun i=>i<=s.lf.length) (fun i=>s.lf.length-i) 0 (by simp only[go_sem];rfl) (Nat.zero_le _) rfl ?_;intro i hi;simp only[go_sem];have hc2:=uk (qZ h hi);rw[iZ] at hc2;refine⟨fun h1=>?_,fun h1=>?_⟩
  ·obtain⟨p1,p2⟩:=h.eq i h1
   have l1:=p1.pN;have l2:=p2.pN;refine⟨by simp only[maxLen];omega,h1,ax (Cq _ p1) rfl (.inl rfl) ?_⟩;simp only[go_sem];refine⟨by rw[List.length_append];simp only[maxLen,List.length_cons,List.length_nil];omega,by simp only[List.length_append,maxLen,List.length_cons,List.length_nil];omega,by omega,ax (Cq _ p2) rfl (.inl rfl) ?_⟩;simp only[go_sem];refine⟨by simp only[List.length_append,maxLen,List.length_cons,List.length_nil];omega,i+1,h1,by omega,?_⟩;rw[wrap_small (by omega) (by omega),Hv,Hb];unfold aa.ku;simp only[List.append_assoc,List.cons_append,List.nil_append];rfl
  ·rw[show i=s.lf.length by omega]
   have e1:=uk (ra h (Nat.le_refl _));have e2:=uk (qZ h (Nat.le_refl _));rw[gI] at e1;rw[iZ] at e2;have l0:=fv h.nd.1 (by have:=h.nd;omega);have q1:=Gp (l:=s.dx s.fr.length);have q2:=Gp (l:=s.cU s.lf.length);rw[SN,<-q1,<-q2];refine⟨fun h1=>⟨fun h2=>?_,fun h2=>?_⟩,fun h1=>⟨fun h2=>?_,fun h2=>?_⟩⟩
   all_goals
    refine ax (jR h.nd.1 (by have:=h.nd;omega)) rfl (.inl rfl) ?_;simp only[go_sem]
   ·rw[if_pos h1,if_pos h2]
    exact⟨by simp only[maxLen];omega,by simp only[List.length_append,maxLen,List.length_cons,List.length_nil];omega,by simp only[List.length_append,maxLen,List.length_cons,List.length_nil];omega,by simp only[List.length_append,maxLen,List.length_cons,List.length_nil];omega,rfl⟩
   ·rw[if_pos h1,if_neg (by simpa using h2)]
    exact⟨by simp only[maxLen];omega,by simp only[List.length_append,maxLen,List.length_cons,List.length_nil];omega,by simp only[List.length_append,maxLen,List.length_cons,List.length_nil];omega,by simp only[List.length_append,maxLen,List.length_cons,List.length_nil];omega,rfl⟩
   ·rw[if_neg (by simpa using h1),if_pos h2]
    exact⟨by simp only[maxLen];omega,by simp only[List.length_append,maxLen,List.length_cons,List.length_nil];omega,by simp only[List.length_append,maxLen,List.length_cons,List.length_nil];omega,by simp only[List.length_append,maxLen,List.length_cons,List.length_nil];omega,rfl⟩
   ·rw[if_neg (by simpa using h1),if_neg (by simpa using h2)]
    exact⟨by simp only[maxLen];omega,by simp only[List.length_append,maxLen,List.length_cons,List.length_nil];omega,by simp only[List.length_append,maxLen,List.length_cons,List.length_nil];omega,by simp only[List.length_append,maxLen,List.length_cons,List.length_nil];omega,rfl⟩
end Go.D3
