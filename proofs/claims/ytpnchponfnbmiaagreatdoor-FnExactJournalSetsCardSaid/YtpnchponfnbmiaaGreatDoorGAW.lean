/- CONTRACTS: schemas that are read: the reference's ParseSchema. -/
import Derived.Test.YtpnchponfnbmiaaGreatDoorGAV
import Derived.Test.YtpnchponfnbmiaaGreatDoorGAN
namespace Go.D3
open Go Proofs
set_option maxHeartbeats 4000000
set_option maxRecDepth 100000
theorem aap{s:aa}(h:fw s){i:Nat}(hi:i<s.fr.length):aS [62] 0 (s.j7 i)=[Lib.itoa (s.fr.getD i 0),Lib.itoa (s.to.getD i 0)]:=by
 obtain⟨a,b⟩:=h.ed i hi;have h1:(62:UInt8) ∉ Lib.itoa (s.fr.getD i 0):=fun hb=>by have:=pq a.1 hb;revert this;decide
 have h2:(62:UInt8) ∉ Lib.itoa (s.to.getD i 0):=fun hb=>by have:=pq b.1 hb;revert this;decide
 unfold aa.j7;rw[show Lib.itoa (s.fr.getD i 0)++62::Lib.itoa (s.to.getD i 0)=Lib.itoa (s.fr.getD i 0)++[62]++Lib.itoa (s.to.getD i 0) by simp,Bj h1,Bk h2]
theorem aaq{s:aa}(h:fw s){i:Nat}(hi:i<s.lf.length):aS [61] 0 (s.lh i)=[(s.lf.getD i U.zero).aT,(s.rt.getD i U.zero).aT]:=by
 obtain⟨a,b⟩:=h.eq i hi;unfold aa.lh;rw[show(s.lf.getD i U.zero).aT++61::(s.rt.getD i U.zero).aT=(s.lf.getD i U.zero).aT++[61]++(s.rt.getD i U.zero).aT by simp,Bj fun hb=>(uh a hb).2 rfl,Bk fun hb=>(uh b hb).2 rfl]
def DU(t:List UInt8)(rc:D)(gs:List D):Prop:=gs=[]/\∃(fr to:List Int)(e:Bool),rc=.o (.al [ints fr,ints to,.bool e])/\∀q:aa,q.ok=true->t=cZ (q.du q.fr.length)->fr=q.fr/\to=q.to/\e=true
theorem Hg{α:Type}{l:List α}(h:l.length=2):∃a b,l=[a,b]:=by
 match l,h with
 | [a,b],_=>exact⟨a,b,rfl⟩
def Dm:List Nat:=[0,2,3,4,5,6,7,8,9]
def LO:Sl:=ah Tryz.types Tryz.f156 Dm []
theorem Ve:aC Tryz.prog Tryz.f156 Dm LO 1=true:=by decide +kernel
theorem YQ(t:List UInt8)(ht:t.length<=4294966000):bK Tryz.prog 156 [.str t] [] (DU t):=by
 have hq0:∀q:aa,q.ok=true->t=cZ (q.du q.fr.length)->dh t=q.du q.fr.length:=fun q h1 h2=>by rw[h2];exact M3 (c6 h1)
 have no:(∀q:aa,q.ok=true->t≠cZ (q.du q.fr.length))->DU t (.o (.al [ints [],ints [],.bool false])) []:=fun h=>⟨rfl,[],[],false,rfl,fun q h1 h2=>absurd h2 (h q h1)⟩
 refine jc .tree Tryz.func156 Ve ?_;unfold LO ah Dm;simp only[go_sem];refine⟨fun h=>?_,fun h=>?_⟩
 ·refine⟨_,_,⟨rfl,[],[],true,rfl,fun q h1 h2=>?_⟩,rfl,rfl,trivial⟩
  have hw:=hq0 q h1 h2;unfold dh at hw;rw[if_pos h] at hw;have hl:q.fr.length=0:=by rw[<-ir (s:=q) (n:=q.fr.length),<-hw];rfl
  exact⟨(List.length_eq_zero_iff.1 hl).symm,(List.length_eq_zero_iff.1 (by rw[(c6 h1).to];exact hl)).symm,rfl⟩
 ·have hw0:dh t=aS [32] 0 t:=by unfold dh;rw[if_neg (by simpa using h)]
  rw[hw0] at hq0;refine an (tM t 32 (by omega)) rfl (.inl (kG _)) ?_;have hn:∀x∈aS [32] 0 t,x.length<=t.length:=fun x hx=>iF hx
  generalize aS [32] 0 t=ws at hq0 hn;simp only[go_sem];refine⟨fun h1=>⟨_,_,no (fun q h2 h3=>?_),rfl,rfl,trivial⟩,fun h1=>?_⟩
  ·have:=(c6 h2).f8
   rw[hq0 q h2 h3,ir] at h1;omega
  refine aE [8] (fun(p:Nat×List Int×List Int)=>[(4,.o (ints p.2.1)),(5,.o (ints p.2.2)),(7,.int .i64 p.1)]) (fun p=>p.1<=ws.length/\p.2.1.length=p.1/\p.2.2.length=p.1/\∀q:aa,q.ok=true->t=cZ (q.du q.fr.length)->p.2.1=q.fr.take p.1/\p.2.2=q.to.take p.1) (fun p=>ws.length-p.1) (0,[],[]) (by simp only[go_sem];rfl) ⟨Nat.zero_le _,rfl,rfl,fun _ _ _=>⟨rfl,rfl⟩⟩ rfl ?_;rintro⟨i,fr,to⟩ ⟨hi,hf,ht2,hq⟩;simp only at hi hf ht2 hq;simp only[go_sem];refine⟨fun h2=>⟨h2,?_⟩,fun h2=>?_⟩
  ·have hx:ws.getD i []∈ws:=by rw[aN h2];exact List.getElem_mem _
   have hxl:=hn _ hx;refine an (tM (ws.getD i []) 62 (by omega)) rfl (.inl (kG _)) ?_
   have hs:∀q:aa,q.ok=true->t=cZ (q.du q.fr.length)->i<q.fr.length/\aS [62] 0 (ws.getD i [])=[Lib.itoa (q.fr.getD i 0),Lib.itoa (q.to.getD i 0)]:=fun q h3 h4=>by
    have hw:=hq0 q h3 h4;have hlt:i<q.fr.length:=by rw[hw,ir] at h2;exact h2
    rw[hw,yt hlt];exact⟨hlt,aap (c6 h3) hlt⟩
   generalize aS [62] 0 (ws.getD i [])=es at hs;simp only[go_sem];by_cases h3:es.length=2
   ·obtain⟨a,b,rfl⟩:=Hg h3
    have e2:(((2:Nat):Int) != 2)=false:=rfl;simp only[go_sem,e2];refine⟨by decide,bu (fun _=>rH _) rfl (fun h=>h) (.inl (by cases bz 9 a<;>rfl)) ?_⟩
    have hsa:∀q:aa,q.ok=true->t=cZ (q.du q.fr.length)->i<q.fr.length/\bz 9 a=some (q.fr.getD i 0).toNat/\bz 9 b=some (q.to.getD i 0).toNat:=fun q h4 h5=>by
     obtain⟨a1,a2⟩:=hs q h4 h5;obtain⟨b1,b2⟩:=(c6 h4).ed i a1;simp only[List.cons.injEq,and_true] at a2;rw[a2.1,a2.2];exact⟨a1,nR b1.1 (by rw[nS b1.1 (by omega)];decide),nR b2.1 (by rw[nS b2.1 (by omega)];decide)⟩
    cases ha:bz 9 a with
    | none =>
     simp only[lP];simp only[go_sem];have e3:decide ((-1:Int)<0)=true:=rfl;simp only[go_sem,e3];refine bu (res:=.int .i64 0) (fun h=>by cases h) rfl (fun h=>by cases h) (.inl rfl) ?_;simp only[go_sem];exact⟨_,_,no (fun q h4 h5=>by have:=(hsa q h4 h5).2.1;rw[ha] at this;cases this),rfl,rfl,trivial⟩
    | some m =>
     have e3:decide ((m:Int)<0)=false:=decide_eq_false (by omega);simp only[lP];simp only[go_sem,e3];refine⟨by decide,bu (fun _=>rH _) rfl (fun h=>h) (.inl (by cases bz 9 b<;>rfl)) ?_⟩;cases hb:bz 9 b with
     | none =>
      have e4:decide ((-1:Int)<0)=true:=rfl;simp only[lP];simp only[go_sem,e4];exact⟨_,_,no (fun q h4 h5=>by have:=(hsa q h4 h5).2.2;rw[hb] at this;cases this),rfl,rfl,trivial⟩
     | some n =>
      have e4:decide ((n:Int)<0)=false:=decide_eq_false (by omega);simp only[lP];simp only[go_sem,e4];refine⟨by decide,an (rH _) rfl (.inl (by cases bz 9 a<;>rfl)) ?_⟩;rw[ha];simp only[lP];simp only[go_sem];refine⟨by omega,by decide,an (rH _) rfl (.inl (by cases bz 9 b<;>rfl)) ?_⟩;rw[hb];simp only[lP];simp only[go_sem];refine⟨by omega,(i+1,fr++[(m:Int)],to++[(n:Int)]),⟨h2,by simp[hf],by simp[ht2],fun q h4 h5=>?_⟩,by show ws.length-(i+1)<_;omega,by rw[wrap_small (by omega) (by omega)];rfl⟩;obtain⟨a1,a2,a3⟩:=hsa q h4 h5;have hT:=c6 h4;obtain⟨b1,b2⟩:=hT.ed i a1;obtain⟨q1,q2⟩:=hq q h4 h5;rw[ha] at a2;rw[hb] at a3;injection a2 with a2
      injection a3 with a3
      show fr++_=q.fr.take (i+1)/\to++_=q.to.take (i+1);rw[bN a1 0,bN (by rw[hT.to];exact a1) 0,q1,q2,a2,a3,Int.toNat_of_nonneg b1.1,Int.toNat_of_nonneg b2.1];exact⟨rfl,rfl⟩
   ·have hg:(!((es.length:Int) != 2))=false:=by simp;omega
    have hg2:((es.length:Int) != 2)=true:=by simpa using hg
    rw[hg2];simp only[go_sem];refine bu (res:=.int .i64 0) (fun h=>by cases h) rfl (fun h=>by cases h) (.inl rfl) ?_;simp only[go_sem];refine bu (res:=.int .i64 0) (fun h=>by cases h) rfl (fun h=>by cases h) (.inl rfl) ?_;simp only[go_sem];exact⟨_,_,no (fun q h4 h5=>by have:=(hs q h4 h5).2;rw[this] at h3;simp at h3),rfl,rfl,trivial⟩
  ·refine⟨_,_,⟨rfl,fr,to,true,rfl,fun q h3 h4=>?_⟩,rfl,rfl,trivial⟩
   obtain⟨q1,q2⟩:=hq q h3 h4;have hw:=hq0 q h3 h4;rw[hw,ir] at h2;have:=(c6 h3).to;rw[List.take_of_length_le (by omega)] at q1 q2;exact⟨q1,q2,rfl⟩
end Go.D3
namespace Go.D3
open Go Proofs
set_option maxHeartbeats 4000000
set_option maxRecDepth 100000
def DY(t:List UInt8)(rc:D)(gs:List D):Prop:=gs=[]/\∃(p:U)(e:Bool),rc=.o (.al [U.d p,.bool e])/\∀q,dz q->t=q.aT->p=q/\e=true
theorem Qr{n:Int}(h : 0<=n)(h1:n<10):Lib.itoa n=[UInt8.ofNat (48+n.toNat)]:=by
 obtain⟨m,rfl⟩:∃m:Nat,n=m:=⟨n.toNat,by omega⟩;rw[Lib.itoa_nonneg,Lib.decDigits_one (by omega)];rfl
theorem aa1{q:U}(h:dz q):q.aT=64::UInt8.ofNat (48+q.st.toNat)::q.ed.map fN:=by
 unfold U.aT;rw[Qr h.st.1 (by have:=h.st;omega)];rfl
def Dx:List Nat:=[0,2,3,4,5]
def LZ:Sl:=ah Tryz.types Tryz.f157 Dx []
theorem Vo:aC Tryz.prog Tryz.f157 Dx LZ 1=true:=by decide +kernel
theorem JR(t:List UInt8)(ht:t.length<=4294966000):bK Tryz.prog 157 [.str t] [] (DY t):=by
 have no:(∀q,dz q->t≠q.aT)->DY t (.o (.al [U.d U.zero,.bool false])) []:=fun h=>⟨rfl,U.zero,false,rfl,fun q h1 h2=>absurd h2 (h q h1)⟩
 have hq:∀q,dz q->t=q.aT->t.length=q.ed.length+2/\t.getD 0 0=64/\((t.getD 1 0).toNat:Int)=48+q.st/\∀i,t.getD (i+2) 0=(q.ed.map fN).getD i 0:=fun q h1 h2=>by
  rw[h2,aa1 h1];have:=h1.st;refine⟨by simp,rfl,?_,fun i=>by simp[List.getD_eq_getElem?_getD]⟩;show((UInt8.ofNat (48+q.st.toNat)).toNat:Int)=_;rw[UInt8.toNat_ofNat',Nat.mod_eq_of_lt (by omega)];omega
 refine jc .tree Tryz.func157 Vo ?_;unfold LZ ah Dx;simp only[go_sem];refine⟨fun h=>⟨h,by decide,by simp at h;omega⟩,(fun h=>by simpa using h),fun h=>⟨_,_,no (fun q h1 h2=>?_),rfl,rfl,trivial⟩,fun h=>?_⟩
 ·obtain⟨a1,a2,_⟩:=hq q h1 h2
  rw[a1,a2] at h;simp at h;omega
 ·simp only[Bool.or_eq_false_iff,decide_eq_false_iff_not] at h
  refine⟨by omega,?_⟩;have hb:=(t.getD 1 0).toNat_lt;rw[wrap_small (n:=((t.getD 1 0).toNat:Int)) (by omega) (by omega),wrap_small (by omega) (by omega)];refine aE [] (fun(p:Nat×List Int)=>[(3,.box [.int .i64 (((t.getD 1 0).toNat:Int)-48),.o (ints p.2)]),(4,.int .i64 (p.1+2:Nat))]) (fun p=>p.1+2<=t.length/\p.2.length=p.1/\p.1<=6/\∀q,dz q->t=q.aT->p.2=q.ed.take p.1) (fun p=>t.length-p.1) (0,[]) (by simp only[go_sem];rfl) ⟨by show 0+2<=_;omega,rfl,by decide,fun _ _ _=>rfl⟩ rfl ?_;rintro⟨k,ed⟩ ⟨hk,hl,h6,he⟩;simp only at hk hl h6 he;simp only[go_sem];refine⟨fun h1=>⟨fun h2=>⟨_,_,no (fun q h3 h4=>?_),rfl,rfl,trivial⟩,fun h2=>an (jf ed (by omega)) rfl (.inl (bT _)) ?_⟩,fun h1=>⟨_,_,⟨rfl,⟨((t.getD 1 0).toNat:Int)-48,ed⟩,true,rfl,fun q h3 h4=>⟨?_,rfl⟩⟩,rfl,rfl,trivial⟩⟩
  ·obtain⟨a1,_⟩:=hq q h3 h4
   have:=h3.len;omega
  ·simp only[go_sem]
   have hb2:=(t.getD (k+2) 0).toNat_lt;rw[wrap_small (n:=((t.getD (k+2) 0).toNat:Int)) (by omega) (by omega),wrap_small (n:=((t.getD (k+2) 0).toNat:Int)-97) (by omega) (by omega)];refine⟨h1,by omega,(k+1,ed++[((t.getD (k+2) 0).toNat:Int)-97]),⟨by show k+1+2<=_;omega,by simp[hl],by show k+1<=6;omega,fun q h3 h4=>?_⟩,by show t.length-(k+1)<_;omega,?_⟩
   ·obtain⟨a1,a2,a3,a4⟩:=hq q h3 h4
    have hlt:k<q.ed.length:=by omega
    have hr:=h3.ed k hlt;have hx:(t.getD (k+2) 0)=fN (q.ed.getD k 0):=by rw[a4,List.getD_eq_getElem?_getD,List.getElem?_map,List.getElem?_eq_getElem hlt,aN hlt];rfl
    show ed++_=q.ed.take (k+1);rw[bN hlt 0,he q h3 h4,hx,sD hr,Int.add_comm 97,Int.add_sub_cancel]
   ·rw[wrap_small (by omega) (by omega)];rfl
  ·obtain⟨a1,a2,a3,a4⟩:=hq q h3 h4
   have h5:=he q h3 h4;rw[List.take_of_length_le (by omega)] at h5;rw[h5,show((t.getD 1 0).toNat:Int)-48=q.st by omega]
end Go.D3
namespace Go.D3
open Go Proofs
set_option maxHeartbeats 4000000
set_option maxRecDepth 100000
set_option maxHeartbeats 8000000
theorem HE{l:List U}:∀e∈l.map U.d,e.vN 2=true:=fun e he=>by obtain⟨p,_,rfl⟩:=List.mem_map.1 he;rfl
def C4:List Nat:=[0,2,3,4,5,6,7,8,9,10,11,12,13,14,15]
def Lt:Sl:=ah Tryz.types Tryz.f121 C4 [(0,156),(0,157)]
theorem UW:aC Tryz.prog Tryz.f121 C4 Lt 1=true:=by decide +kernel
theorem YG(t:List UInt8)(ht:t.length<=4294966000):aw Tryz.prog 121 [.v (.str t)] (mN (gY t)):=by
 have no:(∀q:aa,q.ok=true->t≠q.aT)->D.al [aa.d aa.zero,.int .i64 6]=mN (gY t):=fun h=>by rw[wv h];rfl
 refine aK Tryz.func121 UW ?_;unfold Lt ah C4;simp only[go_sem];refine an (YR t (by omega)) rfl (.inl (kG _)) ?_;have hps:∀q:aa,q.ok=true->t=q.aT->aS [32,124,32] 0 t=[Lib.itoa q.nd,cZ (q.du q.fr.length),cZ (q.cW q.lf.length)]:=fun q h1 h2=>by rw[h2];exact IF (c6 h1)
 have hpl:∀x∈aS [32,124,32] 0 t,x.length<=t.length:=fun x hx=>iF hx
 generalize aS [32,124,32] 0 t=ps at hps hpl;simp only[go_sem];refine⟨fun h=>no fun q h1 h2=>by rw[hps q h1 h2] at h;simp at h,fun h=>?_⟩
 have h3:ps.length=3:=by
  have:(ps.length:Int)=3:=by simpa using h
  omega
 obtain⟨p0,p1,p2,rfl⟩:∃p0 p1 p2,ps=[p0,p1,p2]:=by
  match ps,h3 with
  | [a,b,c],_=>exact⟨a,b,c,rfl⟩
 clear h h3;have l1:=hpl p1 (by simp);have l2:=hpl p2 (by simp);simp only[go_sem];refine⟨by decide,gP [] false (YQ p1 (by omega)) ?_⟩;rintro _ _ ⟨rfl,fr,to,e,rfl,he⟩;refine⟨(by repeat(first | exact trivial | refine⟨(fun h=>by cases h),?_⟩)),(fun h=>by cases h),?_⟩
 have hdq:∀q:aa,q.ok=true->t=q.aT->(bz 9 p0=some q.nd.toNat/\0<=q.nd)/\(fr=q.fr/\to=q.to/\e=true)/\p2=cZ (q.cW q.lf.length):=fun q h1 h2=>by
  have h3:=hps q h1 h2;simp only[List.cons.injEq,and_true] at h3;have:=(c6 h1).nd;exact⟨⟨by rw[h3.1];exact nR this.1 (by rw[nS this.1 (by omega)];decide),this.1⟩,he q h1 h3.2.1,h3.2.2⟩
 clear hps hpl he
 obtain⟨n,hn,hnq⟩:∃n:Int,lP (bz 9 p0)=.int .i64 n/\∀q:aa,q.ok=true->t=q.aT->n=q.nd:=by
  cases hd:bz 9 p0 with
  | none=>exact⟨-1,rfl,fun q h1 h2=>by have:=(hdq q h1 h2).1.1;rw[hd] at this;cases this⟩
  | some m=>exact⟨m,rfl,fun q h1 h2=>by obtain⟨⟨a1,a2⟩,_⟩:=hdq q h1 h2;rw[hd] at a1;injection a1 with a1;omega⟩
 simp only[go_sem];refine⟨by decide,an (rH p0) rfl (.inl (by cases bz 9 p0<;>rfl)) ?_⟩;rw[hn];simp only[go_sem];have e3:([p0,p1,p2]:List (List UInt8)).getD (Int.toNat 2) []=p2:=rfl;rw[e3]
 have hw2:∀q:aa,q.ok=true->t=q.aT->dh p2=q.cW q.lf.length/\fr=q.fr/\to=q.to/\e=true:=fun q h1 h2=>by
  obtain⟨_,a2,a3⟩:=hdq q h1 h2;rw[a3];exact⟨M4 (c6 h1),a2⟩
 have hn2:∀x∈dh p2,x.length<=p2.length:=by
  unfold dh;split
  ·exact fun x hx=>by cases hx
  ·exact fun x hx=>iF hx
 clear hdq;refine⟨by decide,fun h=>⟨by decide,?_⟩,fun h=>?_⟩
 case' refine_1 =>
  have hw0:dh p2=aS [32] 0 p2:=by unfold dh;rw[if_neg (by simpa using h)]
  refine an (tM p2 32 (by omega)) rfl (.inl (kG _)) ?_;rw[<-hw0];generalize dh p2=ws at hw2 hn2;simp only[go_sem];refine⟨by simp,fun h1=>no fun q h2 h3=>?_,fun h1=>?_⟩
  ·obtain⟨a1,_,_,a4⟩:=hw2 q h2 h3
   have:=(c6 h2).l8;rw[a1,kf,a4] at h1;simp at h1;omega
  have he:e=true/\ws.length<=8:=by simp at h1;exact⟨h1.1,by omega⟩
 case' refine_2 =>
  have hw0:dh p2=[]:=by unfold dh;rw[if_pos (by simpa using h)]
  generalize dh p2=ws at hw2 hn2 hw0;refine⟨by simp,fun h1=>no fun q h2 h3=>?_,fun h1=>?_⟩
  ·rw[(hw2 q h2 h3).2.2.2] at h1
   simp at h1
  have he:e=true/\ws.length<=8:=by rw[hw0];simp at h1;exact⟨h1,by simp⟩
  rw[<-hw0]
 all_goals
  refine aE [10,11,12,13,14] (fun(p:Nat×List U×List U)=>[(7,.box [.int .i64 n,.o (ints fr),.o (ints to),.o (ae U.d U.zero p.2.1),.o (ae U.d U.zero p.2.2)]),(9,.int .i64 p.1)]) (fun p=>p.1<=ws.length/\p.2.1.length=p.1/\p.2.2.length=p.1/\∀q:aa,q.ok=true->t=q.aT->p.2.1=q.lf.take p.1/\p.2.2=q.rt.take p.1) (fun p=>ws.length-p.1) (0,[],[]) (by simp only[go_sem];rfl) ⟨Nat.zero_le _,rfl,rfl,fun _ _ _=>⟨rfl,rfl⟩⟩ rfl ?_;rintro⟨j,lf,rt⟩ ⟨hj,hlf,hrt,hq⟩;simp only at hj hlf hrt hq;simp only[go_sem];refine⟨fun h2=>⟨h2,?_⟩,fun h2=>?_⟩
  ·have hx:ws.getD j []∈ws:=by rw[aN h2];exact List.getElem_mem _
   have hxl:=hn2 _ hx;refine an (tM (ws.getD j []) 61 (by omega)) rfl (.inl (kG _)) ?_
   have hcq:∀q:aa,q.ok=true->t=q.aT->j<q.lf.length/\aS [61] 0 (ws.getD j [])=[(q.lf.getD j U.zero).aT,(q.rt.getD j U.zero).aT]:=fun q h3 h4=>by
    have hw:=(hw2 q h3 h4).1;have hlt:j<q.lf.length:=by rw[hw,kf] at h2;exact h2
    rw[hw,FM hlt,aaq (c6 h3) hlt];exact⟨hlt,rfl⟩
   have hel:∀x∈aS [61] 0 (ws.getD j []),x.length<=(ws.getD j []).length:=fun x hx=>iF hx
   generalize aS [61] 0 (ws.getD j [])=es at hcq hel;simp only[go_sem];refine⟨fun h3=>no fun q h4 h5=>by rw[(hcq q h4 h5).2] at h3;simp at h3,fun h3=>?_⟩
   obtain⟨a,b,rfl⟩:=Hg (l:=es) (by
    have:(es.length:Int)=2:=by simpa using h3
    omega)
   have la:=hel a (by simp);have lb:=hel b (by simp)
   have hcq2:∀q:aa,q.ok=true->t=q.aT->j<q.lf.length/\a=(q.lf.getD j U.zero).aT/\b=(q.rt.getD j U.zero).aT:=fun q h4 h5=>by
    obtain⟨a1,a2⟩:=hcq q h4 h5;simp only[List.cons.injEq,and_true] at a2;exact⟨a1,a2⟩
   clear hcq hel;simp only[go_sem];refine⟨by decide,gP [] false (JR a (by omega)) ?_⟩;rintro _ _ ⟨rfl,p,e1,rfl,hp⟩;refine⟨(by repeat(first | exact trivial | refine⟨(fun h=>by cases h),?_⟩)),(fun h=>by cases h),?_⟩;simp only[go_sem];refine⟨by decide,gP [] false (JR b (by omega)) ?_⟩;rintro _ _ ⟨rfl,p',e2,rfl,hp2⟩;refine⟨(by repeat(first | exact trivial | refine⟨(fun h=>by cases h),?_⟩)),(fun h=>by cases h),?_⟩
   have hpp:∀q:aa,q.ok=true->t=q.aT->j<q.lf.length/\(p=q.lf.getD j U.zero/\e1=true)/\p'=q.rt.getD j U.zero/\e2=true:=fun q h4 h5=>by
    obtain⟨a1,a2,a3⟩:=hcq2 q h4 h5;exact⟨a1,hp _ ((c6 h4).eq j a1).1 a2,hp2 _ ((c6 h4).eq j a1).2 a3⟩
   simp only[go_sem];refine⟨by simp,fun h4=>no fun q h5 h6=>?_,fun h4=>?_⟩
   ·obtain⟨_,⟨_,a2⟩,_,a4⟩:=hpp q h5 h6
    rw[a2,a4] at h4;cases h4
   refine⟨HE,by rw[List.length_map];omega,by omega,HE,by rw[List.length_map];omega,by omega,(j+1,lf++[p],rt++[p']),⟨h2,by simp[hlf],by simp[hrt],fun q h5 h6=>?_⟩,by show ws.length-(j+1)<_;omega,by rw[wrap_small (by omega) (by omega)];rfl⟩;obtain⟨a1,⟨a2,_⟩,a3,_⟩:=hpp q h5 h6;obtain⟨q1,q2⟩:=hq q h5 h6;show lf++_=q.lf.take (j+1)/\rt++_=q.rt.take (j+1);rw[bN a1 U.zero,bN (by rw[(c6 h5).rt];exact a1) U.zero,q1,q2,a2,a3];exact⟨rfl,rfl⟩
  ·have hu:∀q:aa,q.ok=true->t=q.aT->(⟨n,fr,to,lf,rt⟩:aa)=q:=fun q h3 h4=>by
    obtain⟨a1,a2,a3,_⟩:=hw2 q h3 h4;obtain⟨a4,a5⟩:=hq q h3 h4;have:=(c6 h3).rt;rw[a1,kf] at h2;rw[List.take_of_length_le (by omega)] at a4 a5;rw[a2,a3,a4,a5,hnq q h3 h4]
   refine an (YD ⟨n,fr,to,lf,rt⟩) rfl (.inl rfl) ?_;simp only[go_sem];cases hok:(⟨n,fr,to,lf,rt⟩:aa).ok with
   | false =>
    refine bu (res:=.str []) (fun h=>by cases h) rfl (fun h=>by cases h) (.inl rfl) ?_;simp only[go_sem];exact no fun q h3 h4=>by rw[hu q h3 h4,h3] at hok;cases hok
   | true =>
    refine bu (fun _=>Y1 ⟨n,fr,to,lf,rt⟩ (c6 hok)) rfl (fun h=>h) (.inl rfl) ?_;simp only[go_sem];refine⟨fun h3=>no fun q h4 h5=>?_,fun h3=>?_⟩
    ·rw[hu q h4 h5,<-h5] at h3;simp at h3
    ·rw[IT hok (by simpa using Eq.symm (by simpa using h3)) hu]
     rfl
end Go.D3
