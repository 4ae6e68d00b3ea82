/- PLAIN LAWS: an instance of a schema is a set functor on the schema's category. -/
import Derived.Test.YtaknpcdnmecblaaGreatDoorGAR
import Derived.Test.YtaknpcdnmecblaaGreatDoorGAT
import Derived.Test.YtaknpcdnmecblaaGreatDoorGAP
namespace Go.D3
open Go Proofs
set_option maxHeartbeats 4000000
set_option maxRecDepth 100000
def lG(mp:List (List Int))(p:U)(n:Nat):List Int:=(List.range n).map fun r:Nat=>ck mp r p.ed
def jF(sz:List Int)(mp:List (List Int))(p:U):List Int:=lG mp p (sz.getD p.st.toNat 0).toNat
theorem u4{mp:List (List Int)}{p:U}{n:Nat}:(lG mp p n).length=n:=by simp[lG]
theorem Es{mp:List (List Int)}{p:U}{n:Nat}:lG mp p (n+1)=lG mp p n++[ck mp n p.ed]:=by
 unfold lG;rw[List.range_succ,List.map_append];rfl
def oW(sz:List Int)(mp:List (List Int))(l:List U):List (List Int):=l.map (jF sz mp)
def aW.eH(x:aW)(sz:List Int)(mp:List (List Int)):Sf:=⟨x.c,sz,oW sz mp x.ls⟩
theorem xd{s:aa}(h:s.ok=true){sz:List Int}{mp:List (List Int)}(S:s.du sz mp=true):sz.length<=8/\∀i,i<sz.length->0<=sz.getD i 0/\sz.getD i 0<=16:=by
 obtain⟨h1,I,_,_⟩:=iB S;have V:=(ic (eX h).1).n8;exact⟨by omega,fun i hi=>by have:=db I hi;omega⟩
def D4:List Nat:=[0,1,2,6,3,7,8,9,10]
def Mc:Sl:=ah Tryz.types Tryz.f48 D4 []
theorem VK:aE Tryz.prog Tryz.f48 D4 Mc 3=true:=by decide +kernel
theorem Zg{s:aa}(V:s.ok=true){x:aW}(hx:s.cn=some x){sz:List Int}{mp:List (List Int)}(S:s.du sz mp=true) :
  aA Tryz.prog 48 [.v (.agg x.sL),.v (ints sz),.v (aC mp)] (Sf.d (x.eH sz mp)):=by
 have Y:=ql V hx;obtain⟨W,ab⟩:=AM V hx;obtain⟨z1,z2⟩:=xd V S;have ad:=(iB S).1;unfold aW.sL;refine aQ Tryz.func48 VK ?_;unfold Mc ah D4;simp only[go_sem];refine aj (uA x.c Y.sh.yx) rfl (.inl (dA _)) ?_;simp only[go_sem];refine aj (eE sz (by omega)) rfl (.inl (bJ _)) ?_;simp only[go_sem];refine au [7,8] (fun(i:Nat)=>[(6,.int .i64 i),(5,.box [.int .i64 x.c.ob,.o (ints x.c.fr),.o (ints x.c.to),.o (ints x.c.an),.o (aC x.c.co),.o (ints sz),.o (aC (oW sz mp (x.ls.take i)))])]) (fun i=>i<=x.ls.length) (fun i=>x.ls.length-i) 0 (by simp only[go_sem];rfl) (Nat.zero_le _) rfl ?_;intro i hi;have I:∀l,(oW sz mp l).length=l.length:=fun l=>List.length_map _
 simp only[go_sem];refine⟨fun h1=>?_,fun h1=>?_⟩
 ·obtain⟨y,hy⟩:=W _ (dj (d:=U.zero) h1)
  obtain⟨a1,a2,a3⟩:=pE hy;obtain⟨b1,b2⟩:=z2 (x.ls.getD i U.zero).st.toNat (by omega);have hw:=aw h1 (show x.ls.length<=maxLen by simp only[maxLen];omega);refine au [] (fun(r:Nat)=>[(7,.o (ints (lG mp (x.ls.getD i U.zero) r))),(8,.int .i64 r)]) (fun r=>(r:Int)<=sz.getD (x.ls.getD i U.zero).st.toNat 0) (fun r=>(sz.getD (x.ls.getD i U.zero).st.toNat 0).toNat-r) 0 (by simp only[go_sem];rfl) b1 rfl ?_;intro r ag;simp only[go_sem];refine⟨h1,by omega,fun Z=>?_,fun Z=>?_⟩
  ·refine⟨h1,aj (Bf mp _ r (tD S a3 (by omega) Z)) rfl (.inl rfl) ?_⟩
   simp only[go_sem];refine⟨by rw[u4];omega,r+1,by omega,by omega,?_⟩;rw[wrap_small (by omega) (by omega),Es];rfl
  ·refine⟨by rw[I,List.length_take];omega,i+1,h1,by omega,?_⟩
   rw[hw,b7 h1 U.zero];unfold oW;rw[List.map_append];simp only[List.map_cons,List.map_nil,jF];rw[show(sz.getD (x.ls.getD i U.zero).st.toNat 0).toNat=r by omega]
 ·rw[List.take_of_length_le (by omega)];rfl
def CQ:List Nat:=[0,1,2,6,7,9,10,11,22,23,24,33,34]
def KT:Sl:=ah Tryz.types Tryz.f43 CQ []
theorem Uw:aE Tryz.prog Tryz.f43 CQ KT 3=true:=by decide +kernel
theorem Yx{s:aa}(V:s.ok=true){x:aW}(hx:s.cn=some x){sz:List Int}{mp:List (List Int)}(S:s.du sz mp=true) :
  aA Tryz.prog 43 [.v (x.pD s),.v (ints sz),.v (aC mp)] (Sf.d (x.eH sz mp)):=by
 have Y:=ql V hx;obtain⟨W,ab⟩:=AM V hx;obtain⟨z1,z2⟩:=xd V S;have ad:=(iB S).1;unfold aW.pD;refine aQ Tryz.func43 Uw ?_;unfold KT ah CQ;simp only[go_sem];refine ra (bs:=[_]) (X1 x.c Y.sh.yx) rfl ⟨.inr ⟨5,_,rfl,rfl⟩,trivial⟩ (.inl (dA _)) ?_;simp only[go_sem];refine aj (kc sz (by omega)) rfl (.inl (bJ _)) ?_;simp only[go_sem];refine au [5,6,7,11,12] (fun(i:Nat)=>[(4,.box [.int .i64 x.c.ob,.o (ints x.c.fr),.o (ints x.c.to),.o (ints x.c.an),.o (aC x.c.co),.o (ints sz),.o (aC (oW sz mp (x.ls.take i)))]),(10,.int .i64 i)]) (fun i=>i<=x.ls.length) (fun i=>x.ls.length-i) 0 (by simp only[go_sem];rfl) (Nat.zero_le _) rfl ?_;intro i hi;have I:∀l,(oW sz mp l).length=l.length:=fun l=>List.length_map _
 simp only[go_sem];refine⟨fun h1=>?_,fun h1=>?_⟩
 ·obtain⟨y,hy⟩:=W _ (dj (d:=U.zero) h1)
  obtain⟨a1,a2,a3⟩:=pE hy;obtain⟨b1,b2⟩:=z2 (x.ls.getD i U.zero).st.toNat (by omega);have hw:=aw h1 (show x.ls.length<=maxLen by simp only[maxLen];omega);refine⟨h1,by omega,?_⟩;refine au [7] (fun(r:Nat)=>[(6,.o (ints (lG mp (x.ls.getD i U.zero) r))),(12,.int .i64 r)]) (fun r=>(r:Int)<=sz.getD (x.ls.getD i U.zero).st.toNat 0) (fun r=>(sz.getD (x.ls.getD i U.zero).st.toNat 0).toNat-r) 0 (by simp only[go_sem];rfl) b1 rfl ?_;intro r ag;simp only[go_sem];refine⟨fun Z=>?_,fun Z=>?_⟩
  ·refine aj (A4 mp _ r (tD S a3 (by omega) Z)) rfl (.inl rfl) ?_
   simp only[go_sem];refine⟨by rw[u4];omega,r+1,by omega,by omega,?_⟩;rw[wrap_small (by omega) (by omega),Es];rfl
  ·refine⟨by rw[I,List.length_take];omega,i+1,h1,by omega,?_⟩
   rw[hw,b7 h1 U.zero];unfold oW;rw[List.map_append];simp only[List.map_cons,List.map_nil,jF];rw[show(sz.getD (x.ls.getD i U.zero).st.toNat 0).toNat=r by omega]
 ·rw[List.take_of_length_le (by omega)];rfl
end Go.D3
namespace Go.D3
open Go
theorem QN{a b:List Int}(S:a.length=b.length)(h:∀i,i<a.length->a.getD i 0=b.getD i 0):a=b:=by
 apply List.ext_getElem S;intro i h1 I;have:=h i h1
 rwa [aM h1,aM I] at this
theorem rJ{mp:List (List Int)}:∀(l m:List Int)(r:Int),ck mp r (l++m)=ck mp (ck mp r l) m
 | [],_,_=>rfl
 | _::l,m,_=>rJ l m _
theorem vY{s:aa}{sz:List Int}{mp:List (List Int)}(W:s.du sz mp=true):∀{l:List Int}{x r y:Int},bp s.fr s.to x l=some y->0<=r->r<sz.getD x.toNat 0->0<=ck mp r l/\ck mp r l<sz.getD y.toNat 0
 | [],_,_,_,I,V,h1=>by cases I;exact⟨V,h1⟩
 | e::l,x,r,y,I,V,h1=>by
  obtain⟨_,_,Z,hm⟩:=iB W;rw[bp] at I;by_cases hc:(bq e 0 ((s.fr.length:Int)-1)&&s.fr.getD e.toNat 0 == x)=true
  ·rw[if_pos hc] at I
   simp only[Bool.and_eq_true,beq_iff_eq,bq,decide_eq_true_eq] at hc;obtain⟨hlen,S⟩:=hm e.toNat (by omega);rw[hc.2] at hlen;have Y:=db S (i:=r.toNat) (by omega);exact vY (l:=l) W I Y.1 Y.2
  ·rw[if_neg hc] at I;cases I
theorem OW{s:aa}{sz:List Int}{mp:List (List Int)}(V:s.brk sz mp s.lf.length=none){i:Nat}(hi:i<s.lf.length){r:Int}(W : 0<=r)(h1:r<sz.getD (s.lf.getD i U.zero).st.toNat 0) :
  ck mp r (s.lf.getD i U.zero).ed=ck mp r (s.rt.getD i U.zero).ed:=by
 unfold aa.brk at V;have I:=y8 V hi;rw[Option.map_eq_none_iff] at I;unfold qZ at I;have S:=y8 I (show r.toNat<(sz.getD (s.lf.getD i U.zero).st.toNat 0).toNat by omega);rw[show((r.toNat:Nat):Int)=r by omega] at S;by_cases h:ck mp r (s.lf.getD i U.zero).ed=ck mp r (s.rt.getD i U.zero).ed
 ·exact h
 ·rw[if_neg h] at S;cases S
theorem NV{s:aa}(h:s.ok=true){sz:List Int}{mp:List (List Int)}(hr:s.du sz mp=true)(hb:s.brk sz mp s.lf.length=none){p q:U}(e:s.eqv p q):∀r:Int,0<=r->r<sz.getD p.st.toNat 0->ck mp r p.ed=ck mp r q.ed:=by
 induction e with
 | refl _=>exact fun _ _ _=>rfl
 | @lk p q i a hp hl =>
  intro r I h1;obtain⟨hi,l1,l2,l3,l4,rfl⟩:=hl;obtain⟨y,hy⟩:=hp;obtain⟨z,W,Z,e3⟩:=ok_eq h hi
  have V:p.ed=p.ed.take a++(s.lf.getD i U.zero).ed++p.ed.drop (a+(s.lf.getD i U.zero).ed.length):=by
   have S:(s.lf.getD i U.zero).ed=(p.ed.drop a).take (s.lf.getD i U.zero).ed.length:=l3.symm.trans (by rw[List.drop_take,Nat.add_sub_cancel_left]);have Y:p.ed.drop a=(p.ed.drop a).take (s.lf.getD i U.zero).ed.length++(p.ed.drop a).drop (s.lf.getD i U.zero).ed.length:=(List.take_append_drop _ _).symm;rw[List.drop_drop] at Y;have h7:p.ed.drop a=(s.lf.getD i U.zero).ed++p.ed.drop (a+(s.lf.getD i U.zero).ed.length):=Y.trans (congrArg (·++_) S.symm);rw[List.append_assoc,<-h7,List.take_append_drop]
  have hm:=vY hr l2 I h1
  conv=>lhs;rw[V]
  show ck mp r (p.ed.take a++_++_)=ck mp r (p.ed.take a++_++_);rw[rJ,rJ,rJ,rJ,OW hb hi hm.1 hm.2]
 | symm e ih =>
  intro r I h1;rw[<-(jN h e).1] at h1;exact(ih r I h1).symm
 | trans W Z i1 i2 =>
  intro r I h1;rw[i1 r I h1];rw[(jN h W).1] at h1;exact i2 r I h1
section
variable{s:aa}{sz:List Int}{mp:List (List Int)}{ls:List U}{x:aW}
theorem Et(p:U){r:Int}(I : 0<=r)(h1:r<sz.getD p.st.toNat 0):(jF sz mp p).getD r.toNat 0=ck mp r p.ed:=by
 unfold jF lG;rw[List.getD_eq_getElem?_getD,List.getElem?_map,List.getElem?_range (by omega)];show ck mp ((r.toNat:Nat):Int) p.ed=_;rw[show((r.toNat:Nat):Int)=r by omega]
theorem zS(h:s.ok=true)(hr:s.du sz mp=true)(Z:s.brk sz mp s.lf.length=none)(Y:s.cF ls){p:U}(hp:s.sp p) :
  ∃k:Nat,s.no ls p=k/\k<ls.length/\(ls.getD k U.zero).st=p.st/\s.aO (ls.getD k U.zero)=s.aO p/\∀r:Int,0<=r->r<sz.getD p.st.toNat 0->ck mp r (ls.getD k U.zero).ed=ck mp r p.ed:=by
 obtain⟨k,h1,V,I⟩:=Y.wv hp;have he:=jN h I;exact⟨k,h1,V,he.1.symm,he.2.1.symm,fun r S W=>(NV h hr Z I r S W).symm⟩
theorem aaq(S:∀p∈ls,p.ed.length<6)(_:s.cF ls){k:Nat}(hk:k<ls.length){e:Nat}(he:e<s.fr.length){y:Int}(W:s.aO (ls.getD k U.zero)=some y)(V:s.fr.getD e 0=y) :
  s.aO ⟨(ls.getD k U.zero).st,(ls.getD k U.zero).ed++[(e:Int)]⟩=some (s.to.getD e 0):=by
 obtain⟨I,a2,a3⟩:=bN.1 W;refine bN.2 ⟨I,?_,?_⟩
 ·have:=S _ (dj (d:=U.zero) hk)
  show((ls.getD k U.zero).ed++[(e:Int)]).length<=6;rw[List.length_append];show _+1<=6;omega
 ·show bp s.fr s.to (ls.getD k U.zero).st ((ls.getD k U.zero).ed++[(e:Int)])=_
  rw[lU,a3];show bp s.fr s.to y [(e:Int)]=_;rw[bp,if_pos (by simp only[Bool.and_eq_true,beq_iff_eq,bq,decide_eq_true_eq,Int.toNat_natCast];exact⟨by omega,V⟩)];rfl
theorem Gm(h:s.ok=true)(hr:s.du sz mp=true)(hb:s.brk sz mp s.lf.length=none)(V:s.cF ls)(h6:∀p∈ls,p.ed.length<6):∀(m:List Int){k:Nat}{y z:Int},k<ls.length->s.aO (ls.getD k U.zero)=some y->bp s.fr s.to y m=some z ->
  ∃S:Nat,m.foldl (s.ju ls) (k:Int)=S/\S<ls.length/\(ls.getD S U.zero).st=(ls.getD k U.zero).st/\s.aO (ls.getD S U.zero)=some z /\
   ∀r:Int,0<=r->r<sz.getD (ls.getD k U.zero).st.toNat 0->ck mp r (ls.getD S U.zero).ed=ck mp (ck mp r (ls.getD k U.zero).ed) m
 | [],k,y,z,hk,Y,hf=>by cases hf;exact⟨k,rfl,hk,rfl,Y,fun _ _ _=>rfl⟩
 | e::m,k,y,z,hk,Y,hf=>by
  rw[bp] at hf;split at hf
  ·rename_i W
   simp only[Bool.and_eq_true,beq_iff_eq,bq,decide_eq_true_eq] at W;obtain⟨n,rfl⟩:∃n:Nat,e=n:=⟨e.toNat,by omega⟩;rw[Int.toNat_natCast] at W hf;have I:=aaq h6 V hk (show n<s.fr.length by omega) Y W.2;obtain⟨k1,a1,a2,a3,a4,a5⟩:=zS h hr hb V ⟨_,I⟩;rw[I] at a4;obtain⟨k2,b1,b2,b3,b4,b5⟩:=Gm h hr hb V h6 m a2 a4 hf;refine⟨k2,?_,b2,b3.trans a3,b4,fun r Z h1=>?_⟩
   ·rw[List.foldl_cons]
    show m.foldl (s.ju ls) (s.no ls ⟨(ls.getD (k:Int).toNat U.zero).st,(ls.getD (k:Int).toNat U.zero).ed++[(n:Int)]⟩)=_;rw[Int.toNat_natCast,a1,b1]
   ·rw[b5 r Z (by rw[a3];exact h1),a5 r Z h1]
    show ck mp (ck mp r ((ls.getD k U.zero).ed++[(n:Int)])) m=_;rw[rJ];rfl
  ·cases hf
theorem tH{α:Type}{f:U->α}{i:Nat}{d:α}(h:i<ls.length):(ls.map f).getD i d=f (ls.getD i U.zero):=by
 rw[List.getD_eq_getElem?_getD,List.getElem?_map,List.getElem?_eq_getElem h,aM h];rfl
theorem xp(h:s.ok=true)(hp:s.cn=some x)(hr:s.du sz mp=true)(hb:s.brk sz mp s.lf.length=none):(x.eH sz mp).cU=true:=by
 obtain⟨ls,hL,⟨h6,b0,hg⟩,rfl⟩:=ur h hp;unfold aa.fT at hg;simp only[Bool.and_eq_true] at hg;have ad:=hg.1.1;have b1:=af.rD ad;obtain⟨z1,z2⟩:=xd h hr;obtain⟨r1,r2,r3,r4⟩:=iB hr;have a6:(s.bu ls).c.an.length=s.nd.toNat:=by simp[aa.bu]
 have ab:(s.bu ls).c.fr.length=ls.length:=by simp[aa.bu]
 have ag:∀{a},a<ls.length->(s.bu ls).c.fr.getD a 0=(ls.getD a U.zero).st:=fun I=>tH I
 have a7:∀{a},a<ls.length->(s.bu ls).c.to.getD a 0=s.en (ls.getD a U.zero):=fun I=>tH I
 have ax:∀{a:Nat},a<ls.length->((s.bu ls).eH sz mp).act.getD a []=jF sz mp (ls.getD a U.zero):=fun I=>tH I
 have ao:∀{a},a<ls.length->∃y,s.aO (ls.getD a U.zero)=some y/\s.en (ls.getD a U.zero)=y/\(0<=(ls.getD a U.zero).st/\(ls.getD a U.zero).st.toNat<sz.length)/\bp s.fr s.to (ls.getD a U.zero).st (ls.getD a U.zero).ed=some y:=fun {a} I=>by
  obtain⟨y,hy⟩:=hL.sp _ (dj (d:=U.zero) I);obtain⟨a1,a2,a3⟩:=bN.1 hy;exact⟨y,hy,by unfold aa.en;rw[hy];rfl,⟨a1.1,by omega⟩,a3⟩
 have W:∀{a:Nat}{r:Int},a<ls.length->0<=r->r<sz.getD (ls.getD a U.zero).st.toNat 0->((s.bu ls).eH sz mp).ac a r=ck mp r (ls.getD a U.zero).ed:=fun {a r} I h0 h1=>by
  unfold Sf.ac;rw[Int.toNat_natCast,ax I,Et _ h0 h1]
 unfold Sf.cU;rw[Bool.and_eq_true];constructor
 ·refine Sf.dO.2 ⟨ad,?_,r2,?_,fun a I=>?_⟩
  ·show sz.length=(s.bu ls).c.an.length
   omega
  ·show(oW sz mp ls).length=(s.bu ls).c.fr.length
   rw[ab];exact List.length_map _
  ·have I:a<ls.length:=by rw[show((s.bu ls).eH sz mp).act.length=ls.length from List.length_map _] at I;exact I
   obtain⟨y,e1,e2,e3,e4⟩:=ao I;unfold Sf.ph;rw[ax I];show(((jF sz mp (ls.getD a U.zero)).length:Int) == sz.getD ((s.bu ls).c.fr.getD a 0).toNat 0&&bI (sz.getD ((s.bu ls).c.to.getD a 0).toNat 0) _)=true;rw[ag I,a7 I,e2,Bool.and_eq_true,beq_iff_eq,HA];have:=z2 _ e3.2;refine⟨by unfold jF;rw[u4];omega,fun v hv=>?_⟩;unfold jF lG at hv;obtain⟨j,hj,rfl⟩:=List.mem_map.1 hv;rw[List.mem_range] at hj;exact vY hr e4 (by omega) (by omega)
 ·rw[Sf.tl (fun x e hx he=>?_) (fun a b e I bg a8 he=>?_)]
  ·rfl
  ·unfold Sf.eO
   have bT:x<s.nd.toNat:=by rw[<-a6];exact hx
   have S:(e:Int)<sz.getD x 0:=by
    have:e<(sz.getD (x:Int).toNat 0).toNat:=he;rw[Int.toNat_natCast] at this;omega
   obtain⟨k,k1,k2,k3,_,k5⟩:=zS h hr hb hL (p:=⟨x,[]⟩) ⟨x,bN.2 ⟨by show(0:Int)<=x/\(x:Int)<=_;omega,Nat.zero_le _,rfl⟩⟩
   have hid:((s.bu ls).eH sz mp).ay.fG (x:Int)=k:=by
    show((List.range s.nd.toNat).map fun x:Nat=>s.no ls ⟨x,[]⟩).getD (x:Int).toNat 0=_;rw[Int.toNat_natCast,List.getD_eq_getElem?_getD,List.getElem?_map,List.getElem?_range bT];exact k1
   rw[hid,W k2 (by omega) (by rw[k3];show(e:Int)<sz.getD (x:Int).toNat 0;rw[Int.toNat_natCast];exact S),k5 e (by omega) (by show(e:Int)<sz.getD (x:Int).toNat 0;rw[Int.toNat_natCast];exact S)];simp[ck]
  ·have Y:a<ls.length:=by rw[<-ab];exact I
   have V:b<ls.length:=by rw[<-ab];exact bg
   obtain⟨y,e1,e2,e3,e4⟩:=ao Y;obtain⟨y',f1,f2,f3,f4⟩:=ao V
   have Z:y=(ls.getD b U.zero).st:=by
    have:(s.bu ls).c.to.getD a 0=(s.bu ls).c.fr.getD b 0:=a8;rw[a7 Y,ag V,e2] at this;exact this
   have S:(e:Int)<sz.getD (ls.getD a U.zero).st.toNat 0:=by
    have:e<(sz.getD ((s.bu ls).c.fr.getD a 0).toNat 0).toNat:=he;rw[ag Y] at this;omega
   obtain⟨k,k1,k2,k3,k4,k5⟩:=Gm h hr hb hL h6 (ls.getD b U.zero).ed Y e1 (by rw[Z];exact f4)
   have bF:((s.bu ls).eH sz mp).ay.bH a b=k:=by
    show(((List.range ls.length).map fun f=>(List.range ls.length).map fun g=>s.cmp ls f g).getD (a:Int).toNat []).getD (b:Int).toNat 0=_;rw[Int.toNat_natCast,Int.toNat_natCast,List.getD_eq_getElem?_getD (l:=List.map _ _) (i:=a),List.getElem?_map,List.getElem?_range Y];show((List.range ls.length).map fun g=>s.cmp ls a g).getD b 0=_;rw[List.getD_eq_getElem?_getD,List.getElem?_map,List.getElem?_range V];show s.cmp ls a b=_;unfold aa.cmp;rw[if_pos (by rw[e2,Z]),k1]
   unfold Sf.jI;have hm:=vY hr e4 (by omega) S;rw[bF,W k2 (by omega) (by rw[k3];exact S),W Y (by omega) S,W V hm.1 (by rw[<-Z];exact hm.2),k5 e (by omega) S];simp
theorem af.QT{c:af}(h:c.cU=true){f:Nat}(S:f<c.fr.length):c.bH (c.fG (c.fr.getD f 0)) f=f:=by
 simp only[af.cU,Bool.and_eq_true,beq_iff_eq] at h;have I:=h.2;unfold af.fE at I;cases h3:(List.range c.fr.length).findSome? fun f=>if c.eO f then some f else none with
 | some p=>rw[h3] at I;cases I
 | none =>
  have:=y8 h3 S;by_cases hi:c.eO f=true
  ·rw[if_pos hi] at this;cases this
  ·rw[Bool.not_eq_true] at hi
   simp only[af.eO,Bool.or_eq_false_iff,bne_eq_false_iff_eq] at hi;exact hi.1
theorem yH(h:s.ok=true)(hp:s.cn=some x){k:Nat}(hk:k<s.fr.length):x.ed.length=s.fr.length/\s.aO ⟨s.fr.getD k 0,[(k:Int)]⟩=some (s.to.getD k 0)/\(∃j:Nat,x.ed.getD k 0=j/\j<x.c.fr.length/\s.no x.ls ⟨s.fr.getD k 0,[(k:Int)]⟩=j)/\x.arr ⟨s.fr.getD k 0,[(k:Int)]⟩ 1=x.ed.getD k 0:=by
 obtain⟨ls,hL,⟨h6,ad,hg⟩,rfl⟩:=ur h hp;unfold aa.fT at hg;simp only[Bool.and_eq_true] at hg;have S:=hg.1.1;have Z:=ic (eX h).1;have ab:=db Z.fr hk
 have W:s.aO ⟨s.fr.getD k 0,[(k:Int)]⟩=some (s.to.getD k 0):=by
  refine bN.2 ⟨by show 0<=s.fr.getD k 0/\s.fr.getD k 0<=_;omega,by show 1<=6;omega,?_⟩;show bp s.fr s.to (s.fr.getD k 0) [(k:Int)]=_;rw[bp,if_pos (by simp only[Bool.and_eq_true,beq_iff_eq,bq,decide_eq_true_eq,Int.toNat_natCast];exact⟨by omega,trivial⟩)];rw[Int.toNat_natCast];rfl
 obtain⟨j,j1,j2,j3⟩:=hL.wv ⟨_,W⟩;have he:=jN h j3
 have V:(s.bu ls).ed.getD k 0=j:=by
  show((List.range s.fr.length).map fun k:Nat=>s.no ls ⟨s.fr.getD k 0,[(k:Int)]⟩).getD k 0=_;rw[List.getD_eq_getElem?_getD,List.getElem?_map,List.getElem?_range hk];exact j1
 have I:(s.bu ls).c.fr.length=ls.length:=by simp[aa.bu]
 have Y:(s.bu ls).c.fr.getD j 0=s.fr.getD k 0:=(tH j2).trans he.1.symm;refine⟨by simp[aa.bu],W,⟨j,V,by rw[I];exact j2,j1⟩,?_⟩;have hid:=af.QT S (f:=j) (by rw[I];exact j2);rw[Y] at hid;show(s.bu ls).c.bH ((s.bu ls).c.fG (s.fr.getD k 0)) ((s.bu ls).ed.getD (k:Int).toNat 0)=_;rw[Int.toNat_natCast,V,hid]
theorem FQ(h:s.ok=true)(hp:s.cn=some x)(Z:s.du sz mp=true)(hb:s.brk sz mp s.lf.length=none){k:Nat}(hk:k<s.fr.length){j:Nat}(hj:x.ed.getD k 0=j):(x.eH sz mp).act.getD j []=mp.getD k []:=by
 obtain⟨_,Y,⟨j',e1,e2,e3⟩,_⟩:=yH h hp hk;obtain rfl:j=j':=by omega
 obtain⟨ls,hL,⟨h6,ab,hg⟩,rfl⟩:=ur h hp;obtain⟨r1,r2,r3,r4⟩:=iB Z;have I:(s.bu ls).c.fr.length=ls.length:=by simp[aa.bu]
 have W:j<ls.length:=by rw[<-I];exact e2
 obtain⟨j2,a1,a2,a3,a4,a5⟩:=zS h Z hb hL ⟨_,Y⟩;obtain rfl:j=j2:=by rw[show s.no ls _=(j:Int) from e3] at a1;omega
 have V:((s.bu ls).eH sz mp).act.getD j []=jF sz mp (ls.getD j U.zero):=tH W;obtain⟨hl,hm⟩:=r4 k (by omega);rw[V]
 have hlen:(jF sz mp (ls.getD j U.zero)).length=(mp.getD k []).length:=by
  unfold jF;rw[u4,a3];show(sz.getD (s.fr.getD k 0).toNat 0).toNat=_;omega
 refine QN hlen fun r ad=>?_
 have S:(r:Int)<sz.getD (s.fr.getD k 0).toNat 0:=by omega
 have:=Et (sz:=sz) (mp:=mp) (ls.getD j U.zero) (r:=r) (by omega) (by rw[a3];exact S);rw[Int.toNat_natCast] at this;rw[this,a5 r (by omega) S];show(mp.getD (k:Int).toNat []).getD (r:Int).toNat 0=_;rw[Int.toNat_natCast,Int.toNat_natCast]
end
end Go.D3
