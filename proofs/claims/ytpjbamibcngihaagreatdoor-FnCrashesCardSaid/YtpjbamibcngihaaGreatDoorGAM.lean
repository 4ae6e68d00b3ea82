/- CONTRACTS: schemas that are read, the reference's side. -/
import Derived.Test.YtpjbamibcngihaaGreatDoorGAL
namespace Go.D3
open Go
set_option maxHeartbeats 4000000
set_option maxRecDepth 100000
set_option maxHeartbeats 1000000
theorem Qn(s:aa):s.fP=!(!aP s.nd 0 8 || decide ((8:Int)<(s.fr.length:Int)) || ((s.to.length:Int) != (s.fr.length:Int)) || !bV s.nd s.fr || !bV s.nd s.to):=by
 unfold aa.fP;have a1:decide (s.fr.length<=8)=!decide ((8:Int)<(s.fr.length:Int)):=by rw[<-decide_not];exact decide_eq_decide.2 (by omega)
 have a2:decide (s.to.length=s.fr.length)=!((s.to.length:Int) != (s.fr.length:Int)):=by
  by_cases h:s.to.length=s.fr.length<;>simp[h]<;>omega
 rw[a1,a2];cases aP s.nd 0 8<;>cases decide ((8:Int)<(s.fr.length:Int))<;>cases((s.to.length:Int) != (s.fr.length:Int))<;>cases bV s.nd s.fr<;>cases bV s.nd s.to<;>rfl
theorem Qo(s:aa):s.iw=!(decide ((8:Int)<(s.lf.length:Int)) || ((s.rt.length:Int) != (s.lf.length:Int))):=by
 unfold aa.iw;have a1:decide (s.lf.length<=8)=!decide ((8:Int)<(s.lf.length:Int)):=by rw[<-decide_not];exact decide_eq_decide.2 (by omega)
 have a2:decide (s.rt.length=s.lf.length)=!((s.rt.length:Int) != (s.lf.length:Int)):=by
  by_cases h:s.rt.length=s.lf.length<;>simp[h]<;>omega
 rw[a1,a2,Bool.not_or]
def Bh:List Nat:=[0,2,1,3,4,5]
def Jg:Sl:=ak Go.Proofs.Tryz.types Go.Proofs.Tryz.f111 Bh []
theorem Ro:aF Go.Proofs.Tryz.prog Go.Proofs.Tryz.f111 Bh Jg 1=true:=by decide +kernel
theorem UO(s:aa):aC Go.Proofs.Tryz.prog 111 [.v (aa.d s)] (.bool s.ok):=by
 refine ei fun hw=>?_
 simp only[dc,eW,aa.d,aa.cells,D.du,gu] at hw;have hl:s.lf.length<=maxLen:=hw.1.2.2.2.1.1;refine aQ Go.Proofs.Tryz.func111 Ro ?_;unfold Jg ak Bh;simp only[go_sem];refine av (oA _ _ _) rfl (.inl rfl) ?_;simp only[go_sem];refine⟨fun h=>by simpa using h,(fun h=>by simp only[Bool.or_eq_false_iff,Bool.and_eq_true,Bool.not_eq_true',Bool.not_eq_false'] at h|-;exact h),?_⟩;refine bt (fun _=>rO s.nd s.fr) rfl (fun h=>h) (.inl rfl) ?_;simp only[go_sem];refine⟨(fun h=>by simp only[Bool.or_eq_false_iff,Bool.and_eq_true,Bool.not_eq_true',Bool.not_eq_false'] at h|-;exact h),?_⟩;refine bt (fun _=>rO s.nd s.to) rfl (fun h=>h) (.inl rfl) ?_;simp only[go_sem];have e1:=Qn s;have e2:=Qo s;refine⟨(fun h=>by simp only[Bool.or_eq_false_iff,Bool.and_eq_true,Bool.not_eq_true',Bool.not_eq_false'] at h|-;exact h),(fun h=>by simp only[Bool.or_eq_false_iff,Bool.and_eq_true,Bool.not_eq_true',Bool.not_eq_false'] at h|-;exact h),(fun h=>by simp only[Bool.or_eq_false_iff,Bool.and_eq_true,Bool.not_eq_true',Bool.not_eq_false'] at h|-;exact h),fun h=>?_,fun h=>?_⟩
 ·unfold aa.ok
  rw[e1,e2];generalize aP s.nd 0 8=x1 at h|-
  generalize decide ((8:Int)<(s.fr.length:Int))=x2 at h|-
  generalize((s.to.length:Int) != (s.fr.length:Int))=x3 at h|-
  generalize bV s.nd s.fr=x4 at h|-
  generalize bV s.nd s.to=x5 at h|-
  generalize decide ((8:Int)<(s.lf.length:Int))=x6 at h|-
  generalize((s.rt.length:Int) != (s.lf.length:Int))=x7 at h|-
  cases x1<;>cases x2<;>cases x3<;>cases x4<;>cases x5<;>cases x6<;>cases x7<;>first | rfl | cases h
 have e1':s.fP=true:=by rw[e1];simp only[Bool.or_eq_false_iff] at h;simp only[h.1.1.1.1.1.1,h.1.1.1.1.1.2,h.1.1.1.1.2,h.1.1.1.2,h.1.1.2];rfl
 have e2':s.iw=true:=by rw[e2];simp only[Bool.or_eq_false_iff] at h;simp only[h.1.2,h.2];rfl
 clear h e1 e2;have hs:=eA e1';have hto:=hs.to;have hn:=hs.n0;have hrt:s.rt.length=s.lf.length:=by have:=e2';simp[aa.iw] at this;exact this.2
 refine aE [4,5] (fun(i:Nat)=>[(3,.int .i64 i)]) (fun i=>i<=s.lf.length/\s.eqs i=true) (fun i=>s.lf.length-i) 0 (by simp only[go_sem];rfl) ⟨Nat.zero_le _,rfl⟩ rfl ?_;rintro i ⟨hi,ha⟩;simp only[go_sem];refine⟨fun h=>⟨h,by omega,av (HX s (s.lf.getD i U.zero) hto hn) rfl (.inl rfl) ?_⟩,fun h=>?_⟩
 ·simp only[go_sem]
  refine bt (fun _=>HX s (s.rt.getD i U.zero) hto hn) rfl (fun h=>h) (.inl rfl) ?_;simp only[go_sem];have hE:=Ee (s:=s) (n:=i);unfold aa.qP at hE
  have neg:s.eqs (i+1)=false->false=s.ok:=fun hf=>by
   unfold aa.ok;rw[e1',e2'];symm;simp only[Bool.true_and];unfold aa.eqs at hf|-
   rw[List.all_eq_false] at hf|-
   obtain⟨x,h1,h2⟩:=hf;exact⟨x,by rw[List.mem_range] at h1|-;omega,h2⟩
  rw[ha,Bool.true_and] at hE;refine⟨fun h=>by simpa using h,(fun h=>by simp only[Bool.or_eq_false_iff,Bool.and_eq_true,Bool.not_eq_false'] at h|-;exact h),?_⟩;have some1:∀{o:Option Int}{b:Bool},(o.isSome&&b)=true->o=some (o.getD 0):=fun {o b} h=>by cases o with | none=>cases h | some a=>rfl
  refine bt (fun hg=>oB s (s.lf.getD i U.zero) ((s.aU (s.lf.getD i U.zero)).getD 0) hto (by rw[Bool.and_assoc] at hg;exact some1 hg)) rfl (fun h=>h) (.inl rfl) ?_;simp only[go_sem]
  refine bt (fun hg=>oB s (s.rt.getD i U.zero) ((s.aU (s.rt.getD i U.zero)).getD 0) hto (by
   rw[Bool.and_eq_true,Bool.and_eq_true] at hg;exact some1 (b:=true) (by rw[hg.1.2];rfl))) rfl (fun h=>h) (.inl rfl) ?_
  simp only[go_sem];refine⟨(fun h=>by simp only[Bool.or_eq_false_iff,Bool.and_eq_true,Bool.not_eq_true',Bool.not_eq_false'] at h|-;exact h),fun h2=>neg ?_,fun h2=>⟨i+1,⟨h,?_⟩,by omega,by rw[aM h hl]⟩⟩
  ·rw[hE]
   generalize s.aU (s.lf.getD i U.zero)=A at h2;generalize s.aU (s.rt.getD i U.zero)=B at h2;cases A with
   | none=>rfl
   | some a =>
    cases B with
    | none=>rfl
    | some b =>
     rw[Bool.and_eq_false_iff];simp only[Option.isSome_some,Bool.not_true,Bool.false_or,Option.getD_some,Bool.or_eq_true,bne_iff_ne] at h2;exact h2.imp beq_eq_false_iff_ne.2 beq_eq_false_iff_ne.2
  ·rw[hE]
   generalize s.aU (s.lf.getD i U.zero)=A at h2;generalize s.aU (s.rt.getD i U.zero)=B at h2;cases A with
   | none=>cases h2
   | some a =>
    cases B with
    | none=>cases h2
    | some b =>
     simp only[Option.isSome_some,Bool.not_true,Bool.false_or,Option.getD_some,Bool.or_eq_false_iff,bne_eq_false_iff_eq] at h2;rw[Bool.and_eq_true];exact⟨beq_iff_eq.2 h2.1,beq_iff_eq.2 h2.2⟩
 ·rw[show i=s.lf.length by omega] at ha
  unfold aa.ok;rw[e1',e2',ha];rfl
end Go.D3
namespace Go.D3
open Go
set_option maxRecDepth 100000
theorem Wq{s:aa}(h:eN s){i:Nat}(hi:i<s.fr.length):aT [62] 0 (s.jn i)=[Lib.itoa (s.fr.getD i 0),Lib.itoa (s.to.getD i 0)]:=by
 obtain⟨a,b⟩:=h.ed i hi;have h1:(62:UInt8) ∉ Lib.itoa (s.fr.getD i 0):=fun hb=>by have:=mh a.1 hb;revert this;decide
 have h2:(62:UInt8) ∉ Lib.itoa (s.to.getD i 0):=fun hb=>by have:=mh b.1 hb;revert this;decide
 unfold aa.jn;rw[show Lib.itoa (s.fr.getD i 0)++62::Lib.itoa (s.to.getD i 0)=Lib.itoa (s.fr.getD i 0)++[62]++Lib.itoa (s.to.getD i 0) by simp,oJ h1,rY h2]
theorem Wr{s:aa}(h:eN s){i:Nat}(hi:i<s.lf.length):aT [61] 0 (s.j8 i)=[(s.lf.getD i U.zero).aL,(s.rt.getD i U.zero).aL]:=by
 obtain⟨a,b⟩:=h.eq i hi;unfold aa.j8;rw[show(s.lf.getD i U.zero).aL++61::(s.rt.getD i U.zero).aL=(s.lf.getD i U.zero).aL++[61]++(s.rt.getD i U.zero).aL by simp,oJ fun hb=>(sf a hb).2 rfl,rY fun hb=>(sf b hb).2 rfl]
def Ct(t:List UInt8)(rc:D)(gs:List D):Prop:=gs=[]/\∃(fr to:List Int)(e:Bool),rc=.o (.au [ints fr,ints to,.bool e])/\∀q:aa,q.ok=true->t=da (q.dA q.fr.length)->fr=q.fr/\to=q.to/\e=true
theorem Fu{α:Type}{l:List α}(h:l.length=2):∃a b,l=[a,b]:=by
 match l,h with
 | [a,b],_=>exact⟨a,b,rfl⟩
def BJ:List Nat:=[0,2,3,4,5,6,7,8,9]
def JH:Sl:=ak Go.Proofs.Tryz.types Go.Proofs.Tryz.f109 BJ []
theorem RR:aF Go.Proofs.Tryz.prog Go.Proofs.Tryz.f109 BJ JH 1=true:=by decide +kernel
theorem U1(t:List UInt8)(ht:t.length<=4294966000):bM Go.Proofs.Tryz.prog 109 [.str t] [] (Ct t):=by
 have hq0:∀q:aa,q.ok=true->t=da (q.dA q.fr.length)->dv t=q.dA q.fr.length:=fun q h1 h2=>by rw[h2];exact K3 (cJ h1)
 have no:(∀q:aa,q.ok=true->t≠da (q.dA q.fr.length))->Ct t (.o (.au [ints [],ints [],.bool false])) []:=fun h=>⟨rfl,[],[],false,rfl,fun q h1 h2=>absurd h2 (h q h1)⟩
 refine dN .tree Go.Proofs.Tryz.func109 RR ?_;unfold JH ak BJ;simp only[go_sem];refine⟨fun h=>?_,fun h=>?_⟩
 ·refine⟨_,_,⟨rfl,[],[],true,rfl,fun q h1 h2=>?_⟩,rfl,rfl,trivial⟩
  have hw:=hq0 q h1 h2;unfold dv at hw;rw[if_pos h] at hw;have hl:q.fr.length=0:=by rw[<-gT (s:=q) (n:=q.fr.length),<-hw];rfl
  exact⟨(List.length_eq_zero_iff.1 hl).symm,(List.length_eq_zero_iff.1 (by rw[(cJ h1).to];exact hl)).symm,rfl⟩
 ·have hw0:dv t=aT [32] 0 t:=by unfold dv;rw[if_neg (by simpa using h)]
  rw[hw0] at hq0;refine av (rP t 32 (by omega)) rfl (.inl (jH _)) ?_;have hn:∀x∈aT [32] 0 t,x.length<=t.length:=fun x hx=>ic hx
  generalize aT [32] 0 t=ws at hq0 hn;simp only[go_sem];refine⟨fun h1=>⟨_,_,no (fun q h2 h3=>?_),rfl,rfl,trivial⟩,fun h1=>?_⟩
  ·have:=(cJ h2).f8
   rw[hq0 q h2 h3,gT] at h1;omega
  refine aE [8] (fun(p:Nat×List Int×List Int)=>[(4,.o (ints p.2.1)),(5,.o (ints p.2.2)),(7,.int .i64 p.1)]) (fun p=>p.1<=ws.length/\p.2.1.length=p.1/\p.2.2.length=p.1/\∀q:aa,q.ok=true->t=da (q.dA q.fr.length)->p.2.1=q.fr.take p.1/\p.2.2=q.to.take p.1) (fun p=>ws.length-p.1) (0,[],[]) (by simp only[go_sem];rfl) ⟨Nat.zero_le _,rfl,rfl,fun _ _ _=>⟨rfl,rfl⟩⟩ rfl ?_;rintro⟨i,fr,to⟩ ⟨hi,hf,ht2,hq⟩;simp only at hi hf ht2 hq;simp only[go_sem];refine⟨fun h2=>⟨h2,?_⟩,fun h2=>?_⟩
  ·have hx:ws.getD i []∈ws:=by rw[aS h2];exact List.getElem_mem _
   have hxl:=hn _ hx;refine av (rP (ws.getD i []) 62 (by omega)) rfl (.inl (jH _)) ?_
   have hs:∀q:aa,q.ok=true->t=da (q.dA q.fr.length)->i<q.fr.length/\aT [62] 0 (ws.getD i [])=[Lib.itoa (q.fr.getD i 0),Lib.itoa (q.to.getD i 0)]:=fun q h3 h4=>by
    have hw:=hq0 q h3 h4;have hlt:i<q.fr.length:=by rw[hw,gT] at h2;exact h2
    rw[hw,w7 hlt];exact⟨hlt,Wq (cJ h3) hlt⟩
   generalize aT [62] 0 (ws.getD i [])=es at hs;simp only[go_sem];by_cases h3:es.length=2
   ·obtain⟨a,b,rfl⟩:=Fu h3
    have e2:(((2:Nat):Int) != 2)=false:=rfl;simp only[go_sem,e2];refine⟨by decide,bt (fun _=>pX _) rfl (fun h=>h) (.inl (by cases bA 9 a<;>rfl)) ?_⟩
    have hsa:∀q:aa,q.ok=true->t=da (q.dA q.fr.length)->i<q.fr.length/\bA 9 a=some (q.fr.getD i 0).toNat/\bA 9 b=some (q.to.getD i 0).toNat:=fun q h4 h5=>by
     obtain⟨a1,a2⟩:=hs q h4 h5;obtain⟨b1,b2⟩:=(cJ h4).ed i a1;simp only[List.cons.injEq,and_true] at a2;rw[a2.1,a2.2];exact⟨a1,mi b1.1 (by rw[mj b1.1 (by omega)];decide),mi b2.1 (by rw[mj b2.1 (by omega)];decide)⟩
    cases ha:bA 9 a with
    | none =>
     simp only[kL];simp only[go_sem];have e3:decide ((-1:Int)<0)=true:=rfl;simp only[go_sem,e3];refine bt (res:=.int .i64 0) (fun h=>by cases h) rfl (fun h=>by cases h) (.inl rfl) ?_;simp only[go_sem];exact⟨_,_,no (fun q h4 h5=>by have:=(hsa q h4 h5).2.1;rw[ha] at this;cases this),rfl,rfl,trivial⟩
    | some m =>
     have e3:decide ((m:Int)<0)=false:=decide_eq_false (by omega);simp only[kL];simp only[go_sem,e3];refine⟨by decide,bt (fun _=>pX _) rfl (fun h=>h) (.inl (by cases bA 9 b<;>rfl)) ?_⟩;cases hb:bA 9 b with
     | none =>
      have e4:decide ((-1:Int)<0)=true:=rfl;simp only[kL];simp only[go_sem,e4];exact⟨_,_,no (fun q h4 h5=>by have:=(hsa q h4 h5).2.2;rw[hb] at this;cases this),rfl,rfl,trivial⟩
     | some n =>
      have e4:decide ((n:Int)<0)=false:=decide_eq_false (by omega);simp only[kL];simp only[go_sem,e4];refine⟨by decide,av (pX _) rfl (.inl (by cases bA 9 a<;>rfl)) ?_⟩;rw[ha];simp only[kL];simp only[go_sem];refine⟨by omega,by decide,av (pX _) rfl (.inl (by cases bA 9 b<;>rfl)) ?_⟩;rw[hb];simp only[kL];simp only[go_sem];refine⟨by omega,(i+1,fr++[(m:Int)],to++[(n:Int)]),⟨h2,by simp[hf],by simp[ht2],fun q h4 h5=>?_⟩,by show ws.length-(i+1)<_;omega,by rw[wrap_small (by omega) (by omega)];rfl⟩;obtain⟨a1,a2,a3⟩:=hsa q h4 h5;have hT:=cJ h4;obtain⟨b1,b2⟩:=hT.ed i a1;obtain⟨q1,q2⟩:=hq q h4 h5;rw[ha] at a2;rw[hb] at a3;injection a2 with a2
      injection a3 with a3
      show fr++_=q.fr.take (i+1)/\to++_=q.to.take (i+1);rw[cH a1 0,cH (by rw[hT.to];exact a1) 0,q1,q2,a2,a3,Int.toNat_of_nonneg b1.1,Int.toNat_of_nonneg b2.1];exact⟨rfl,rfl⟩
   ·have hg:(!((es.length:Int) != 2))=false:=by simp;omega
    have hg2:((es.length:Int) != 2)=true:=by simpa using hg
    rw[hg2];simp only[go_sem];refine bt (res:=.int .i64 0) (fun h=>by cases h) rfl (fun h=>by cases h) (.inl rfl) ?_;simp only[go_sem];refine bt (res:=.int .i64 0) (fun h=>by cases h) rfl (fun h=>by cases h) (.inl rfl) ?_;simp only[go_sem];exact⟨_,_,no (fun q h4 h5=>by have:=(hs q h4 h5).2;rw[this] at h3;simp at h3),rfl,rfl,trivial⟩
  ·refine⟨_,_,⟨rfl,fr,to,true,rfl,fun q h3 h4=>?_⟩,rfl,rfl,trivial⟩
   obtain⟨q1,q2⟩:=hq q h3 h4;have hw:=hq0 q h3 h4;rw[hw,gT] at h2;have:=(cJ h3).to;rw[List.take_of_length_le (by omega)] at q1 q2;exact⟨q1,q2,rfl⟩
end Go.D3
