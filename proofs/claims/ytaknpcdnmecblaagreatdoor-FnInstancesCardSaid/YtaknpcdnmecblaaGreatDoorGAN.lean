/- CONTRACTS: the category of a schema: the program's side. -/
import Derived.Test.YtaknpcdnmecblaaGreatDoorGAI
import Derived.Test.YtaknpcdnmecblaaGreatDoorGAL
import Derived.Test.YtaknpcdnmecblaaGreatDoorGAM
import Derived.Test.YtaknpcdnmecblaaGreatDoorGAC
namespace Go.D3
open Go Proofs
set_option maxHeartbeats 4000000
set_option maxRecDepth 100000
abbrev r9(S:D)(x:aW)(Y:D):List D:=[S,.int .i64 x.c.ob,ints x.c.fr,ints x.c.to,ints x.c.an,aC x.c.co,ints x.ed,Y]
def CN:List Nat:=[0,1,4,3,5,7,18,19,20]
def KQ:Sl:=ah Tryz.types Tryz.f54 CN []
theorem Ut:aE Tryz.prog Tryz.f54 CN KQ 2=true:=by decide +kernel
theorem w8{s:aa}{x:aW}(I:qP s x)(S Y:D){p:U}{y:Int}(hp:s.aO p=some y):aA Tryz.prog 54 [.v (.ptr (r9 S x Y)),.v (U.d p)] (.int .i64 (x.arr p p.ed.length)):=by
 obtain⟨h1,h2,_⟩:=bN.1 hp;have hi:=I.sh.an;have ho:=I.ob;have ab:=I.sh.co;have ad:=I.ed
 have he:∀i,i<p.ed.length->∃k:Nat,p.ed.getD i 0=k/\k<s.fr.length:=fun i hi=>by
  have hm:=rm hp (i:=i+1) hi;rw[b7 hi 0] at hm;obtain⟨k,Z,k2,_⟩:=zb hm;exact⟨k,Z,k2⟩
 refine aQ Tryz.func54 Ut ?_;unfold KQ ah CN;simp only[go_sem];refine⟨by omega,?_⟩;refine au [5] (fun(i:Nat)=>[(4,.int .i64 (x.arr p i)),(8,.int .i64 i)]) (fun i=>i<=p.ed.length) (fun i=>p.ed.length-i) 0 (by simp only[go_sem];rfl) (Nat.zero_le _) rfl ?_;intro i hi;simp only[go_sem];refine⟨fun V=>?_,fun V=>?_⟩
 ·obtain⟨k,Z,k2⟩:=he i V
  obtain⟨a1,a2,_⟩:=I.ar k k2;obtain⟨a,m,e3,e4,_⟩:=aW.ye I hp i (by omega);have hr:=I.sh.row a e4
  have hs:x.arr p (i+1)=x.c.bH (x.arr p i) (x.ed.getD (p.ed.getD i 0).toNat 0):=by
   unfold aW.arr;rw[b7 V 0,List.foldl_append];rfl
  have W : 0<=x.ed.getD (p.ed.getD i 0).toNat 0/\x.ed.getD (p.ed.getD i 0).toNat 0<x.c.fr.length:=by
   rw[Z,Int.toNat_natCast];exact⟨a1,a2⟩
  refine⟨V,by omega,ra (bs:=[_,_,_]) (Jr x.c (x.arr p i) (x.ed.getD (p.ed.getD i 0).toNat 0) (by omega) (by omega) W.1 (by rw[e3,Int.toNat_natCast];omega)) rfl ⟨.inr ⟨5,_,rfl,rfl⟩,.inl rfl,.inl rfl,trivial⟩ (.inl rfl) ?_⟩;simp only[go_sem];exact⟨i+1,V,by omega,by rw[hs,aw V (by simp only[maxLen];omega)];rfl⟩
 ·rw[show i=p.ed.length by omega]
def CO:List Nat:=[0,2,3,4,5,14,15,16,34,35]
def KR:Sl:=ah Tryz.types Tryz.f171 CO []
theorem Uu:aE Tryz.prog Tryz.f171 CO KR 1=true:=by decide +kernel
theorem XV{s:aa}(h:s.ok=true){ls:List U}(hL:s.cF ls)(ag:ls.length<=40):aA Tryz.prog 171 [.v (.ptr (r9 (.ptr s.cells) (s.bu ls) (ae U.d U.zero ls)))] (.bool (s.fT (s.bu ls))):=by
 obtain⟨ax,a1,a6⟩:=eX h;have ad:(s.bu ls).ls=ls:=rfl;refine aQ Tryz.func171 Uu ?_;unfold KR ah CO;simp only[go_sem];refine ra (bs:=[_]) (Jq (s.bu ls).c) rfl ⟨.inr ⟨5,_,rfl,rfl⟩,trivial⟩ (.inl rfl) ?_;simp only[go_sem];refine⟨fun V=>?_,fun V=>?_⟩
 ·rw[show s.fT (s.bu ls)=false from Bool.eq_false_iff.2 fun hg=>by
   unfold aa.fT at hg;simp only[Bool.and_eq_true] at hg
   rw[hg.1.1] at V;cases V]
 have V:(s.bu ls).c.cU=true:=by simpa using V
 have hx:=BT h hL V;refine au [2,3] (fun(f:Nat)=>[(7,.int .i64 f)]) (fun f=>f<=ls.length/\∀j,j<f->(s.bu ls).arr (ls.getD j U.zero) (ls.getD j U.zero).ed.length=j) (fun f=>ls.length-f) 0 (by simp only[go_sem];rfl) ⟨Nat.zero_le _,fun j S=>absurd S (Nat.not_lt_zero _)⟩ rfl ?_;rintro f ⟨ao,Z⟩;simp only[go_sem];refine⟨fun W=>?_,fun W=>?_⟩
 ·obtain⟨y,hy⟩:=hL.sp _ (dj (d:=U.zero) W)
  refine⟨W,aj (w8 hx _ _ hy) rfl (.inl rfl) ?_⟩;simp only[go_sem];refine⟨fun I=>?_,fun I=>⟨f+1,⟨W,fun j S=>?_⟩,by omega,by rw[aw W (by simp only[maxLen];omega)]⟩⟩
  ·rw[show s.fT (s.bu ls)=false from Bool.eq_false_iff.2 fun hg=>by
    unfold aa.fT at hg;simp only[Bool.and_eq_true,jG,beq_iff_eq] at hg;rw[bne_iff_ne] at I
    exact I (hg.1.2 f W)]
  ·by_cases hjf:j<f
   ·exact Z j hjf
   ·obtain rfl:j=f:=by omega
    rwa [bne_eq_false_iff_eq] at I
 obtain rfl:f=ls.length:=by omega
 refine au [4] (fun(i:Nat)=>[(9,.int .i64 i)]) (fun i=>i<=s.lf.length/\∀j,j<i->(s.bu ls).arr (s.lf.getD j U.zero) (s.lf.getD j U.zero).ed.length=(s.bu ls).arr (s.rt.getD j U.zero) (s.rt.getD j U.zero).ed.length) (fun i=>s.lf.length-i) 0 (by simp only[go_sem];rfl) ⟨Nat.zero_le _,fun j S=>absurd S (Nat.not_lt_zero _)⟩ rfl ?_;rintro i ⟨hi,ab⟩;simp only[go_sem];refine⟨fun Y=>?_,fun Y=>?_⟩
 ·obtain⟨z,hp,hq,aK⟩:=ok_eq h Y
  refine⟨Y,aj (w8 hx _ _ hp) rfl (.inl rfl) ?_⟩;simp only[go_sem];refine⟨by omega,aj (w8 hx _ _ hq) rfl (.inl rfl) ?_⟩;simp only[go_sem];refine⟨fun I=>?_,fun I=>⟨i+1,⟨Y,fun j S=>?_⟩,by omega,by rw[aw Y (by simp only[maxLen];omega)]⟩⟩
  ·rw[show s.fT (s.bu ls)=false from Bool.eq_false_iff.2 fun hg=>by
    unfold aa.fT at hg;simp only[Bool.and_eq_true,jG,beq_iff_eq] at hg;rw[bne_iff_ne] at I
    exact I (hg.2 i Y)]
  ·by_cases hji:j<i
   ·exact ab j hji
   ·obtain rfl:j=i:=by omega
    rwa [bne_eq_false_iff_eq] at I
 ·rw[show s.fT (s.bu ls)=true from ?_]
  unfold aa.fT;simp only[Bool.and_eq_true,jG,beq_iff_eq];exact⟨⟨V,fun j S=>Z j S⟩,fun j S=>ab j (by omega)⟩
end Go.D3
namespace Go.D3
open Go Proofs
set_option maxHeartbeats 4000000
set_option maxRecDepth 100000
structure qN(s:aa)(list:List U)(cl:List Int)(K:List U)(O B:List Int)(ls:List U):Prop where
 r:lC s list cl K
 eq:ls=O.map fun c=>K.getD c.toNat U.zero
 ae:s.cF ls
 all:∀d:Nat,d<K.length->(d:Int)∈O
 e8:∀i,i<O.length->0<=O.getD i 0/\O.getD i 0<K.length
 b:∀x,x<O.length->B.getD (O.getD x 0).toNat 0=x
 bl:B.length=K.length
theorem qN.at{s:aa}(I:s.ok=true){list K ls:List U}{cl O B:List Int}(R:qN s list cl K O B ls){p:U}(hp:s.sp p) :
  ∃i c x:Nat,i<list.length/\list.getD i U.zero=p/\cl.getD i 0=c/\c<K.length/\B.getD c 0=x/\x<ls.length/\K.getD c U.zero=ls.getD x U.zero/\s.no ls p=x:=by
 obtain⟨y,V⟩:=hp;obtain⟨i,hi,rfl⟩:=ff (d:=U.zero) (R.r.sh.a.a _ y V);obtain⟨c,c1,c2,x,W,Y,Z,S⟩:=jB.no I R.r.sh.a R.r.c R.r.k (O:=O) (by rw[<-R.eq];exact R.ae) (B:=B) R.b R.all hi;rw[<-R.eq] at S;have hl:ls.length=O.length:=by rw[R.eq,List.length_map]
 refine⟨i,c,x,hi,rfl,c1,c2,W,by omega,?_,S⟩;rw[R.eq,nb (0:Int) Y,Z,Int.toNat_natCast]
theorem qN.iD{s:aa}{list K ls:List U}{cl O B:List Int}(R:qN s list cl K O B ls){h:Nat}(I:h<ls.length):(ls.getD h U.zero).ed.length<6:=by
 have S:ls.length=O.length:=by rw[R.eq,List.length_map]
 have V:=R.e8 h (by omega);rw[R.eq,nb (0:Int) (by omega)];exact R.r.iD _ (dj (by omega))
def Cn:List Nat:=[0,1,2,3,4,7,8,10,25,26,27]
def Ko:Sl:=ah Tryz.types Tryz.f170 Cn []
theorem T3:aE Tryz.prog Tryz.f170 Cn Ko 5=true:=by decide +kernel
theorem YE{s:aa}(h:s.ok=true){list K ls:List U}{cl O B:List Int}(R:qN s list cl K O B ls)(d0 d1 d2 d3 d4 d5 d6:D)(f g:Nat)(hf:f<ls.length)(hg:g<ls.length)(he:s.en (ls.getD f U.zero)=(ls.getD g U.zero).st) :
  aA Tryz.prog 170 [.v (.int .i64 f),.v (.int .i64 g),.v (.ptr [.ptr [d0,d1,d2,d3,d4,d5,d6,ae U.d U.zero ls]]),.v (.ptr [ui list cl K]),.v (.ptr [ints B])] (.int .i64 ((ls.getD g U.zero).ed.foldl (s.ju ls) f)):=by
 have hs:=ic (eX h).1;have ax:=hs.f8;obtain⟨y,hy⟩:=R.ae.sp _ (dj (d:=U.zero) hf);obtain⟨z,hz⟩:=R.ae.sp _ (dj (d:=U.zero) hg);have V:=rl hy;rw[he] at V;generalize hG:ls.getD g U.zero=G at hz V;have ag:=(bN.1 hz).2.1;refine aQ Tryz.func170 T3 ?_;unfold Ko ah Cn;simp only[go_sem];rw[hG];refine⟨hf,hg,?_⟩;refine au [7] (fun(p:Nat×Nat)=>[(6,.box [.int .i64 (ls.getD p.2 U.zero).st,ints (ls.getD p.2 U.zero).ed]),(10,.int .i64 p.1)]) (fun p=>p.1<=G.ed.length/\p.2<ls.length/\(p.2:Int)=(G.ed.take p.1).foldl (s.ju ls) (f:Int)/\∃u v,s.aO (ls.getD p.2 U.zero)=some u/\bp s.fr s.to u (G.ed.drop p.1)=some v) (fun p=>G.ed.length-p.1) (0,f) (by simp only[go_sem];rfl) ⟨Nat.zero_le _,hf,rfl,y,z,hy,by rw[<-V];exact(bN.1 hz).2.2⟩ rfl ?_;rintro⟨k,m⟩ ⟨hk,hm,W,u,v,hu,hv⟩;simp only at hk hm W hu hv;simp only[go_sem];refine⟨fun h1=>?_,fun h1=>?_⟩
 ·have Y:=vI (fr:=s.fr) (to:=s.to) (x:=u) h1
  rw[hv] at Y;split at Y
  ·rename_i hc
   simp only[bq,Bool.and_eq_true,decide_eq_true_eq,beq_iff_eq] at hc;obtain⟨k0,S⟩:∃k0:Nat,G.ed.getD k 0=k0:=⟨(G.ed.getD k 0).toNat,by omega⟩;rw[S,Int.toNat_natCast] at hc Y;have H6:=R.iD hm;have I:=pB (p:=ls.getD m U.zero) (e:=k0) (by rw[hc.2];exact hu) (by omega) H6;obtain⟨i,c,x,i1,i2,c1,c2,x1,x2,x3,x4⟩:=R.at h ⟨_,I⟩;rw[<-S] at i2 x4
   have Z:(x:Int)=(G.ed.take (k+1)).foldl (s.ju ls) (f:Int):=by
    rw[b7 h1 0,List.foldl_append,<-W];show _=s.ju ls m (G.ed.getD k 0);unfold aa.ju;rw[Int.toNat_natCast,x4]
   have ab:∃u v,s.aO (ls.getD x U.zero)=some u/\bp s.fr s.to u (G.ed.drop (k+1))=some v:=by
    refine⟨_,v,?_,Y.symm⟩;obtain⟨x',e1,e2,e3⟩:=R.ae.wv ⟨_,I⟩;rw[<-S,x4] at e1;obtain rfl:x'=x:=by omega
    rw[<-(jN h e3).2.1,I]
   have ad:=aw h1 (show G.ed.length<=maxLen by simp only[maxLen];omega);refine⟨h1,?_⟩
   with_reducible (repeat' apply And.intro)
   all_goals(
    refine aj (kc (ls.getD m U.zero).ed (by omega)) rfl (.inl (bJ _)) ?_;simp only[go_sem];refine⟨by omega,aj (w6 hs R.r i1 _ _ i2) rfl (.inl rfl) ?_⟩;simp only[go_sem,c1,x3]
    exact⟨by omega,(k+1,x),⟨h1,x2,Z,ab⟩,by simp only;omega,by rw[ad]⟩)
  ·cases Y
 ·obtain⟨i,c,x,i1,i2,c1,c2,x1,x2,x3,x4⟩:=R.at h ⟨_,hu⟩
  refine aj (w6 hs R.r i1 _ _ i2) rfl (.inl rfl) ?_;simp only[go_sem,c1,x1];have e:=R.ae.wu hm (.refl ⟨_,hu⟩);have ao:=R.bl;refine⟨by omega,?_⟩;rw[<-x4,e,W,List.take_of_length_le (by omega)]
end Go.D3
namespace Go.D3
open Go Proofs
set_option maxHeartbeats 4000000
set_option maxRecDepth 100000
abbrev M0(S:D)(ob:Int)(fr to an:List Int)(co:List (List Int))(ed:List Int)(Y:D)(k:List D)(B:List Int):List D :=
 [.box [.o (.ptr [S,.int .i64 ob,ints fr,ints to,ints an,aC co,ints ed,Y])],.box k,.box [.o (ints B)]]
def B3:List Nat:=[0,1,4,5,6,18,19,37,38]
def J4:Sl:=ah Tryz.types Tryz.f169 B3 []
theorem TJ:aE Tryz.prog Tryz.f169 B3 J4 2=true:=by decide +kernel
theorem X4(S Sd Y Yd:D)(hS:S.strip=Sd)(hY:Y.strip=Yd)(ob:Int)(fr to an:List Int)(ed B:List Int)(k:D)(hk:k.strip=k)(ag:∃l,k=.ptr l)(fn:FuncId)(cf:Nat->Nat->Int)(hn:fr.length<=1048576)(ax:to.length=fr.length)(hb:fB Tryz.prog fn=true)
  (hc:∀co (f g:Nat),f<fr.length->g<fr.length->to.getD f 0=fr.getD g 0->aA Tryz.prog fn [.v (.int .i64 f),.v (.int .i64 g),.v (.ptr [.ptr [Sd,.int .i64 ob,ints fr,ints to,ints an,aC co,ints ed,Yd]]),.v (.ptr [k]),.v (.ptr [ints B])] (.int .i64 (cf f g))) :
  lE Tryz.prog 169 [.aG 0 [(0,0),(0,1)],.fn fn [.aG 0 [(0,0)],.aG 1 [(0,0)],.aG 2 [(0,0)]]] (M0 S ob fr to an [] ed Y [k] B) (.o (.av [])) (M0 S ob fr to an (fM fr to cf fr.length fr.length) ed Y [k] B):=by
 obtain⟨kl,rfl⟩:=ag;refine I1 .tree Tryz.func169 TJ ?_;unfold J4 ah B3;simp only[go_sem];refine ra (bs:=[_]) (w5 ⟨ob,fr,to,an,[]⟩) rfl ⟨.inr ⟨5,_,rfl,rfl⟩,trivial⟩ (.inl rfl) ?_;simp only[go_sem];refine⟨by omega,?_⟩;refine au [3,4,7,8] (fun(f:Nat)=>[(6,.int .i64 f),(9,.box [.o (.ptr [S,.int .i64 ob,ints fr,ints to,ints an,aC (fM fr to cf f fr.length),ints ed,Y])])]) (fun f=>f<=fr.length) (fun f=>fr.length-f) 0 (by simp only[go_sem];rfl) (Nat.zero_le _) ?_ ?_
 ·simp only[go_sem,aaS];rfl
 intro f hf;simp only[go_sem,BS,List.length_replicate];refine⟨fun h1=>?_,fun h1=>?_⟩
 ·have Z:∀r,((fM fr to cf f fr.length).set f r).length=fr.length:=fun r=>by rw[List.length_set,BS]
  have W:∀r,((fM fr to cf f fr.length).set f r).getD f []=r:=fun r=>ZT (by rw[BS];exact h1)
  simp only[Z,W,List.length_replicate];refine⟨⟨Nat.le_refl _,by omega⟩,h1,h1,h1,?_⟩;refine au [4] (fun(g:Nat)=>[(8,.int .i64 g),(9,.box [.o (.ptr [S,.int .i64 ob,ints fr,ints to,ints an,aC ((fM fr to cf f fr.length).set f (gZ fr to cf f g fr.length)),ints ed,Y])])]) (fun g=>g<=fr.length) (fun g=>fr.length-g) 0 (by simp only[go_sem];rfl) (Nat.zero_le _) ?_ ?_
  ·simp only[go_sem,Zp];rfl
  intro g hg;simp only[go_sem,Z,W,List.set_set,JR,List.length_replicate];refine⟨fun I=>?_,fun I=>?_⟩
  ·have ad:ei kl=kl:=by injection hk
   have ab:=aw I (show fr.length<=maxLen by simp only[maxLen];omega);refine⟨h1,I,⟨h1,I⟩,by omega,I,fun he=>?_,fun he=>?_⟩
   ·have V:=hc ((fM fr to cf f fr.length).set f ((gZ fr to cf f g fr.length).set g (-1))) f g h1 I he
    have aK:ei [.int .i64 f,.int .i64 g,.ptr [.ptr [S,.int .i64 ob,ints fr,ints to,ints an,aC ((fM fr to cf f fr.length).set f ((gZ fr to cf f g fr.length).set g (-1))),ints ed,Y]],.ptr [.ptr kl],.ptr [ints B]] =
      [.int .i64 f,.int .i64 g,.ptr [.ptr [Sd,.int .i64 ob,ints fr,ints to,ints an,aC ((fM fr to cf f fr.length).set f ((gZ fr to cf f g fr.length).set g (-1))),ints ed,Yd]],.ptr [.ptr kl],.ptr [ints B]]:=by
     simp only[ei,D.strip,dD,uL,hS,hY,ad]
    have ao:=JS (fr:=fr) (to:=to) (cf:=cf) (f:=f) (n:=g) (N:=fr.length) (v:=cf f g) (by rw[if_pos he])
    with_reducible (repeat' apply And.intro)
    all_goals(first
     | exact h1
     | (refine Wr rfl aK hb V rfl ?_
        simp only[go_sem,Z,W,List.set_set,JR,List.length_set]
        with_reducible (repeat' apply And.intro)
        all_goals(first | exact h1 | exact I | exact⟨g+1,I,by omega,by rw[<-ao,ab]⟩)))
   ·exact⟨g+1,I,by omega,by rw[JS (by rw[if_neg (beq_eq_false_iff_ne.1 he)]),ab]⟩
  ·obtain rfl:g=fr.length:=by omega
   exact⟨f+1,h1,by omega,by rw[aaR,aw h1 (by simp only[maxLen];omega)]⟩
 ·obtain rfl:f=fr.length:=by omega
  exact⟨rfl,rfl⟩
end Go.D3
namespace Go.D3
open Go Proofs
set_option maxHeartbeats 4000000
set_option maxRecDepth 100000
theorem EW{O:List Int}(S:∀i,i<O.length->0<=O.getD i 0/\O.getD i 0<O.length)(V:O.Nodup):∀n,n<=O.length ->
  ((List.range n).foldl (fun o x=>o.set (O.getD x 0).toNat (x:Int)) (List.replicate O.length 0)).length=O.length/\∀x,x<n->((List.range n).foldl (fun o x=>o.set (O.getD x 0).toNat (x:Int)) (List.replicate O.length 0)).getD (O.getD x 0).toNat 0=x
 | 0,_=>⟨by simp,fun x hx=>by omega⟩
 | n+1,h=>by
  obtain⟨h1,W⟩:=EW S V n (by omega);have Y:=S n (by omega);rw[List.range_succ,List.foldl_append];simp only[List.foldl_cons,List.foldl_nil];refine⟨by rw[List.length_set,h1],fun x hx=>?_⟩;have Z:=S x (by omega);rw[ln (by omega)];by_cases I:x=n
  ·subst I;rw[if_pos rfl]
  ·rw[if_neg fun e=>I (HQ V (show x<O.length by omega) (show n<O.length by omega) (by omega))]
   exact W x (by omega)
theorem Tt{n:Nat}:(bk n).Nodup:=by
 unfold bk;rw[List.nodup_iff_pairwise_ne,List.pairwise_map];exact List.pairwise_lt_range.imp fun {a b} h e=>by omega
theorem lC.le{s:aa}{list K:List U}{cl:List Int}(R:lC s list cl K):K.length<=400:=by
 have h1:=zU (Tt (n:=K.length)) (B:=cl) fun x I=>by
  unfold bk at I;obtain⟨c,S,rfl⟩:=List.mem_map.1 I;obtain⟨m,m1,m2,_⟩:=R.k.ex c (List.mem_range.1 S);rw[<-m2];exact dj (by rw[R.c.len];exact m1)
 rw[dq,R.c.len] at h1;have:=R.sh.len;omega
theorem lC.sp{s:aa}{list K:List U}{cl:List Int}(R:lC s list cl K):∀p∈K,s.sp p:=fun p hp=>by
 obtain⟨c,I,rfl⟩:=ff (d:=U.zero) hp;obtain⟨m,m1,_,m3⟩:=R.k.ex c I;rw[m3];exact R.sh.a.at' m1
theorem Wj{s:aa}(h:s.ok=true){list K:List U}{cl O:List Int}(R:lC s list cl K)(hp:O.Perm (bk K.length))(hs:O.Pairwise fun a b=>¬s.lt (K.getD b.toNat U.zero) (K.getD a.toNat U.zero)) :
  O.length=K.length/\(∀i,i<O.length->0<=O.getD i 0/\O.getD i 0<O.length)/\qN s list cl K O ((List.range O.length).foldl (fun o x=>o.set (O.getD x 0).toNat (x:Int)) (List.replicate O.length 0)) (O.map fun c=>K.getD c.toNat U.zero):=by
 have V:O.length=K.length:=by rw[hp.length_eq,dq]
 have S:∀i,i<O.length->0<=O.getD i 0/\O.getD i 0<O.length:=fun i hi=>by
  have:=hp.mem_iff.1 (dj (d:=0) hi);unfold bk at this;obtain⟨d,I,e⟩:=List.mem_map.1 this;have:=List.mem_range.1 I;omega
 have Z:O.Nodup:=hp.nodup_iff.2 (by
  unfold bk;rw[List.nodup_iff_pairwise_ne,List.pairwise_map]
  exact List.pairwise_lt_range.imp fun {a b} h e=>by omega)
 obtain⟨W,Y⟩:=EW S Z O.length (Nat.le_refl _);exact⟨V,S,R,rfl,jB.ae h R.sh.a R.c R.k hp hs,fun d I=>hp.mem_iff.2 (List.mem_map.2 ⟨d,List.mem_range.2 I,rfl⟩),fun i hi=>by have:=S i hi;omega,Y,W.trans V⟩
theorem Mj{s:aa}:(D.vw (.ptr s.cells)).strip=.ptr s.cells:=by
 show D.ptr [_,(ints s.fr).strip,(ints s.to).strip,(ae U.d U.zero s.lf).strip,(ae U.d U.zero s.rt).strip]=_;rw[dD,dD,o6,o6];rfl
theorem S7{α β:Type}{f:α->D}{g:β->D}{l:List (α×β)}:(bW f g l).strip=bW f g l:=rfl
theorem Ww{list K:List U}{cl:List Int}:(ui list cl K).strip=ui list cl K:=by
 show D.ptr [(mq list).strip,(ints cl).strip,(ae U.d U.zero K).strip]=_;rw[S7,dD,o6]
theorem WW:fB Tryz.prog 170=true:=by
 simp only[fB,Tryz.func170];rfl
theorem aaT{s:aa}{ls:List U}:fM (ls.map U.st) (ls.map s.en) (fun f g=>(ls.getD g U.zero).ed.foldl (s.ju ls) (f:Int)) ls.length ls.length=(s.bu ls).c.co:=by
 show _=yw s ls ls.length;unfold fM yw;refine List.map_congr_left fun f I=>?_
 have I:=List.mem_range.1 I;rw[if_pos I];unfold gZ nw;refine List.map_congr_left fun g hg=>?_
 have hg:=List.mem_range.1 hg;rw[if_pos hg,nb U.zero I,nb U.zero hg];rfl
theorem ID{s:aa}{x:aW}:ei [.ptr (r9 (.vw (.ptr s.cells)) x (ae eZ none (x.ls.map some)))]=[.ptr (r9 (.ptr s.cells) x (ae U.d U.zero x.ls))]:=by
 show[D.ptr [(D.vw (.ptr s.cells)).strip,_,(ints x.c.fr).strip,(ints x.c.to).strip,(ints x.c.an).strip,(aC x.c.co).strip,(ints x.ed).strip,(ae eZ none (x.ls.map some)).strip]]=_;rw[Mj,AN,uL,dD,dD,dD,dD];rfl
def Ek(s:aa)(l:List D):Prop:=(∃x,l=[.ptr (r9 (.vw (.ptr s.cells)) x (ae eZ none (x.ls.map some))),.bz]/\s.cn=some x)\/∃m,l=[.bd,.bE 159 (.agg [.str m])]/\s.cn=none
def NJ(s:aa)(rc:D)(gs:List D):Prop:=gs=[]/\∃l,rc=.av l/\Ek s l
def Cm:List Nat:=[0,2,3,4,5,6,7,8,10,11,12,14,15,16,43,44,45,101,102,126,127,128]
def Kn:Sl:=ah Tryz.types Tryz.f95 Cm [(0,165),(0,166),(0,169),(4,2),(9,1)]
theorem T2:aE Tryz.prog Tryz.f95 Cm Kn 1=true:=by decide +kernel
theorem Yh(s:aa)(h:s.ok=true):bn Tryz.prog 95 [.ptr s.cells] [] (NJ s):=by
 obtain⟨bF,cd,cg⟩:=eX h;have S:=ic bF;have b1:=S.to;have h0:=S.n0;have h8:=S.n8;have cc:=S.f8;refine dB .view Tryz.func95 T2 ?_;unfold Kn ah Cm;simp only[go_sem];refine bj [] false (YC s h) ?_;rintro _ _ ⟨rfl,l,rfl,hq⟩;refine⟨(by repeat(first | exact trivial | refine⟨(fun h=>by cases h),?_⟩)),(fun h=>by cases h),?_⟩;rcases hq with⟨list,cl,K,rfl,R⟩ | ⟨m,rfl,hq⟩
 rotate_left
 ·simp only[go_sem]
  exact⟨_,_,⟨rfl,_,rfl,.inr ⟨_,rfl,oH hq⟩⟩,rfl,rfl,trivial⟩
 simp only[go_sem];refine bj [] false (Yf S R.sp R.le _ _) ?_;rintro _ _ ⟨rfl,O,rfl,hp,b0⟩;refine⟨(by repeat(first | exact trivial | refine⟨(fun h=>by cases h),?_⟩)),(fun h=>by cases h),?_⟩;obtain⟨b9,hOr,Q⟩:=Wj h R hp b0;have b5:=R.le;simp only[go_sem];refine⟨fun a7=>?_,fun a7=>?_⟩
 ·exact⟨_,_,⟨rfl,_,rfl,.inr ⟨_,rfl,oH (.jY _ Q.ae fun ha=>by have:=ha.2.1;rw[List.length_map] at this;omega)⟩⟩,rfl,rfl,trivial⟩
 refine aj (Yl O (by omega) (fun i hi=>hOr i hi)) rfl (.inl (bJ _)) ?_;generalize hB:(List.range O.length).foldl (fun o x=>o.set (O.getD x 0).toNat (x:Int)) (List.replicate O.length 0)=B at Q;simp only[go_sem];generalize ag:(O.map fun c=>K.getD c.toNat U.zero)=ls at Q;have b4:ls.length=O.length:=by rw[<-ag,List.length_map]
 refine au [8,9,10] (fun(i:Nat)=>[(7,.box [.o (.ptr [.vw (.ptr s.cells),.int .i64 s.nd,ints ((ls.take i).map U.st),ints ((ls.take i).map s.en),ints [],aC [],ints [],ae eZ none ((ls.take i).map some)])]),(16,.int .i64 i)]) (fun i=>i<=O.length) (fun i=>O.length-i) 0 (by simp only[go_sem];rfl) (Nat.zero_le _) rfl ?_;intro i hi;simp only[go_sem];refine⟨fun h1=>?_,fun h1=>?_⟩
 ·have bT:K.getD (O.getD i 0).toNat U.zero=ls.getD i U.zero:=by rw[<-ag,nb (0:Int) h1]
  obtain⟨y,hy⟩:=Q.ae.sp _ (dj (d:=U.zero) (show i<ls.length by omega));have I:=oM s (ls.getD i U.zero) b1 h0;rw[hy] at I;simp only[kD] at I;have hr:=hOr i h1;simp only[bT];refine⟨h1,by omega,aj I rfl (.inl rfl) ?_⟩;simp only[go_sem];have a6:(ls.take i).length=i:=by rw[List.length_take];omega
  simp only[List.length_map,a6];refine⟨rfl,by omega,by omega,by omega,i+1,h1,by omega,?_⟩;rw[b7 (show i<ls.length by omega) U.zero,aw h1 (by simp only[maxLen];omega)];simp only[List.map_append,List.map_cons,List.map_nil,rl hy]
  try rfl
 obtain rfl:i=O.length:=by omega
 rw[List.take_of_length_le (show ls.length<=O.length by omega)];refine au [11] (fun(x:Nat)=>[(7,.box [.o (.ptr [.vw (.ptr s.cells),.int .i64 s.nd,ints (ls.map U.st),ints (ls.map s.en),ints (pK s ls x),aC [],ints [],ae eZ none (ls.map some)])]),(18,.int .i64 x)]) (fun x=>(x:Int)<=s.nd) (fun x=>s.nd.toNat-x) 0 (by simp only[go_sem];rfl) h0 rfl ?_;intro x hx;have ab:(pK s ls x).length=x:=qn;simp only[go_sem];refine⟨fun h2=>?_,fun h2=>?_⟩
 ·obtain⟨a,c,z,a1,a2,c1,c2,z1,z2,z3,z4⟩:=Q.at h ⟨_,rn (s:=s) (x:=x) (by omega) h2⟩
  have a8:=Q.bl;have b3:=aw (n:=9) (i:=x) (by omega) (by decide);have ad:pK s ls (x+1)=pK s ls x++[(z:Int)]:=by rw[<-z4];exact qo
  with_reducible (repeat' apply And.intro)
  all_goals(
   refine aj (w6 S R a1 _ _ a2) rfl (.inl rfl) ?_;simp only[go_sem,c1,z1,ab]
   exact⟨by omega,by omega,x+1,by omega,by omega,by rw[ad,b3]⟩)
 obtain rfl:x=s.nd.toNat:=by omega
 refine au [12,13] (fun(k:Nat)=>[(7,.box [.o (.ptr [.vw (.ptr s.cells),.int .i64 s.nd,ints (ls.map U.st),ints (ls.map s.en),ints (pK s ls s.nd.toNat),aC [],ints (rk s ls k),ae eZ none (ls.map some)])]),(21,.int .i64 k)]) (fun k=>k<=s.fr.length) (fun k=>s.fr.length-k) 0 (by simp only[go_sem];rfl) (Nat.zero_le _) rfl ?_;intro k hk;have W:(rk s ls k).length=k:=qn;simp only[go_sem];refine⟨fun V=>?_,fun V=>?_⟩
 ·have Z:=db S.fr V
  have ao:=pB (p:=⟨s.fr.getD k 0,[]⟩) (rn Z.1 Z.2) V (show(0:Nat)<6 by decide);rw[List.nil_append] at ao;obtain⟨a,c,z,a1,a2,c1,c2,z1,z2,z3,z4⟩:=Q.at h ⟨_,ao⟩;have a8:=Q.bl;have b2:=aw V (show s.fr.length<=maxLen by simp only[maxLen];omega);have Y:rk s ls (k+1)=rk s ls k++[(z:Int)]:=by rw[<-z4];exact qo
  refine⟨V,?_⟩
  with_reducible (repeat' apply And.intro)
  all_goals(
   refine aj (w6 S R a1 _ _ a2) rfl (.inl rfl) ?_;simp only[go_sem,c1,z1,W]
   exact⟨by omega,by omega,k+1,V,by omega,by rw[Y,b2]⟩)
 obtain rfl:k=s.fr.length:=by omega
 have bg:(ls.map U.st).length=ls.length:=List.length_map _;have a6:(ls.map s.en).length=ls.length:=List.length_map _
 have ax:=X4 (.vw (.ptr s.cells)) (.ptr s.cells) (ae eZ none (ls.map some)) (ae U.d U.zero ls) Mj AN s.nd (ls.map U.st) (ls.map s.en) (pK s ls s.nd.toNat) (rk s ls s.fr.length) B (ui list cl K) Ww ⟨_,rfl⟩ 170 (fun f g=>(ls.getD g U.zero).ed.foldl (s.ju ls) f) (by omega) (by omega) WW
  (fun co f g hf hg he=>YE h Q _ _ _ _ _ _ _ f g (by omega) (by omega) (by
    rw[nb U.zero (show f<ls.length by omega),nb U.zero (show g<ls.length by omega)] at he
    exact he))
 refine Gp [7,3,6] false ax ?_;simp only[go_sem];rw[bg,aaT];refine O4 (XV h Q.ae (by omega)) (xs:=[_]) rfl (ID (s:=s) (x:=s.bu ls)) (.inl rfl) ?_;simp only[go_sem];refine⟨fun hg=>?_,fun hg=>?_⟩
 ·exact⟨_,_,⟨rfl,_,rfl,.inr ⟨_,rfl,vO Q.ae (by simpa using hg)⟩⟩,rfl,rfl,trivial⟩
 ·refine⟨_,_,⟨rfl,_,rfl,.inl ⟨s.bu ls,rfl,oH (.yes ls ⟨list,R.sh.nd,R.sh.a,R.sh.len⟩ Q.ae ⟨fun p hp=>?_,by omega,by simpa using hg⟩)⟩⟩,rfl,rfl,trivial⟩
  obtain⟨j,hj,rfl⟩:=ff (d:=U.zero) hp;exact Q.iD hj
def aW.pD(s:aa)(x:aW):D:=.ptr (r9 (.ptr s.cells) x (ae U.d U.zero x.ls))
def NK(s:aa)(l:List D):Prop:=(∃x,l=[x.pD s,.bz]/\s.cn=some x)\/∃m,l=[.bd,.bE 159 (.agg [.str m])]/\s.cn=none
theorem YF(s:aa)(h:s.ok=true):bn Tryz.prog 95 [.ptr s.cells] [] fun rc gs=>gs=[]/\∃l,rc=.av l/\NK s l:=by
 refine(bn.clean (Q:=Ek s) (Yh s h) fun l S=>?_).imp fun r g ⟨hg,l,V,S⟩=>⟨hg,_,V,?_⟩
 ·rcases S with⟨_,rfl,_⟩ | ⟨_,rfl,_⟩<;>exact⟨trivial,trivial,trivial⟩
 ·rcases S with⟨x,rfl,I⟩ | ⟨m,rfl,I⟩
  ·refine .inl ⟨x,?_,I⟩
   have:=ID (s:=s) (x:=x);injection this with this
   show[D.strip _,_]=_;rw[this];rfl
  ·exact .inr ⟨m,rfl,I⟩
end Go.D3
