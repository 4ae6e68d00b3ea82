/- CONTRACTS: maps of schemas: types, sizes, copies, comparisons. -/
import Derived.Test.YtpnchponfnbmiaaGreatDoorGAD
namespace Go.D3
open Go
set_option maxHeartbeats 4000000
set_option maxRecDepth 100000
structure Smp where
 src:Sch
 av:Sch
 aX:List (Int)
 aL:List (Pth)
def Smp.cells(x:Smp):List D:=[.int .i64 x.src.nd,ints x.src.fr,ints x.src.to,U Pth.d Pth.zero x.src.lf,U Pth.d Pth.zero x.src.rt,.int .i64 x.av.nd,ints x.av.fr,ints x.av.to,U Pth.d Pth.zero x.av.lf,U Pth.d Pth.zero x.av.rt,ints x.aX,U Pth.d Pth.zero x.aL]
def Smp.d(x:Smp):D:=.agg x.cells
def Smp.zero:Smp:=⟨Sch.zero,Sch.zero,[],[]⟩
def Smp.cost(x:Smp):Nat:=Sch.cost x.src+Sch.cost x.av+x.aX.length+b7 Pth.cost x.aL
theorem UT:D.slice (.agg [.int .i64 0,ints [],ints [],U Pth.d Pth.zero [],U Pth.d Pth.zero [],.int .i64 0,ints [],ints [],U Pth.d Pth.zero [],U Pth.d Pth.zero [],ints [],U Pth.d Pth.zero []]) []=U Smp.d Smp.zero []:=rfl
theorem SN{n:Nat}:D.slice (.agg [.int .i64 0,ints [],ints [],U Pth.d Pth.zero [],U Pth.d Pth.zero [],.int .i64 0,ints [],ints [],U Pth.d Pth.zero [],U Pth.d Pth.zero [],ints [],U Pth.d Pth.zero []]) (List.replicate n (.agg [.int .i64 0,ints [],ints [],U Pth.d Pth.zero [],U Pth.d Pth.zero [],.int .i64 0,ints [],ints [],U Pth.d Pth.zero [],U Pth.d Pth.zero [],ints [],U Pth.d Pth.zero []]))=U Smp.d Smp.zero (List.replicate n Smp.zero):=by unfold U;rw[List.map_replicate];rfl
theorem Ut{l:List Smp}{i:Nat}{srcnd:Int}{srcfr:List (Int)}{srcto:List (Int)}{srclf:List (Pth)}{srcrt:List (Pth)}{tgtnd:Int}{tgtfr:List (Int)}{tgtto:List (Int)}{tgtlf:List (Pth)}{tgtrt:List (Pth)}{aX:List (Int)}{aL:List (Pth)}:cX (.o (U Smp.d Smp.zero l)) [(i,0)] 0 [.int .i64 srcnd,ints srcfr,ints srcto,U Pth.d Pth.zero srclf,U Pth.d Pth.zero srcrt,.int .i64 tgtnd,ints tgtfr,ints tgtto,U Pth.d Pth.zero tgtlf,U Pth.d Pth.zero tgtrt,ints aX,U Pth.d Pth.zero aL]=.o (U Smp.d Smp.zero (l.set i ⟨⟨srcnd,srcfr,srcto,srclf,srcrt⟩,⟨tgtnd,tgtfr,tgtto,tgtlf,tgtrt⟩,aX,aL⟩)):=mQ (n:=12) (fun _=>⟨_,rfl,rfl⟩) rfl
attribute [go_sem] Smp.cells.eq_1 Smp.d.eq_1 UT SN
theorem KC{l:List Smp}{srcnd:Int}{srcfr:List (Int)}{srcto:List (Int)}{srclf:List (Pth)}{srcrt:List (Pth)}{tgtnd:Int}{tgtfr:List (Int)}{tgtto:List (Int)}{tgtlf:List (Pth)}{tgtrt:List (Pth)}{aX:List (Int)}{aL:List (Pth)}:(U Smp.d Smp.zero l).cZ [.agg [.int .i64 srcnd,ints srcfr,ints srcto,U Pth.d Pth.zero srclf,U Pth.d Pth.zero srcrt,.int .i64 tgtnd,ints tgtfr,ints tgtto,U Pth.d Pth.zero tgtlf,U Pth.d Pth.zero tgtrt,ints aX,U Pth.d Pth.zero aL]]=U Smp.d Smp.zero (l++[⟨⟨srcnd,srcfr,srcto,srclf,srcrt⟩,⟨tgtnd,tgtfr,tgtto,tgtlf,tgtrt⟩,aX,aL⟩]):=kY (f:=Smp.d) (x:=⟨⟨srcnd,srcfr,srcto,srclf,srcrt⟩,⟨tgtnd,tgtfr,tgtto,tgtlf,tgtrt⟩,aX,aL⟩)
attribute [go_sem high] Ut KC
theorem fw(x:Smp):x.d.ba=true:=by simp only[Smp.d,Smp.cells,D.ba,dH,bJ,gq jA,Bool.and_self]
structure bX where
 src:ak
 av:ak
 iq:List (Int)
 dW:List (Int)
def bX.cells(x:bX):List D:=[.int .i64 x.src.ob,ints x.src.fr,ints x.src.to,ints x.src.aN,aW x.src.co,.int .i64 x.av.ob,ints x.av.fr,ints x.av.to,ints x.av.aN,aW x.av.co,ints x.iq,ints x.dW]
def bX.d(x:bX):D:=.agg x.cells
def bX.zero:bX:=⟨ak.zero,ak.zero,[],[]⟩
def bX.cost(x:bX):Nat:=ak.cost x.src+ak.cost x.av+x.iq.length+x.dW.length
theorem UP:D.slice (.agg [.int .i64 0,ints [],ints [],ints [],aW [],.int .i64 0,ints [],ints [],ints [],aW [],ints [],ints []]) []=U bX.d bX.zero []:=rfl
theorem SJ{n:Nat}:D.slice (.agg [.int .i64 0,ints [],ints [],ints [],aW [],.int .i64 0,ints [],ints [],ints [],aW [],ints [],ints []]) (List.replicate n (.agg [.int .i64 0,ints [],ints [],ints [],aW [],.int .i64 0,ints [],ints [],ints [],aW [],ints [],ints []]))=U bX.d bX.zero (List.replicate n bX.zero):=by unfold U;rw[List.map_replicate];rfl
theorem Up{l:List bX}{i:Nat}{srcob:Int}{srcfr:List (Int)}{srcto:List (Int)}{srcidn:List (Int)}{srcco:List (List (Int))}{tgtob:Int}{tgtfr:List (Int)}{tgtto:List (Int)}{tgtidn:List (Int)}{tgtco:List (List (Int))}{iq:List (Int)}{dW:List (Int)}:cX (.o (U bX.d bX.zero l)) [(i,0)] 0 [.int .i64 srcob,ints srcfr,ints srcto,ints srcidn,aW srcco,.int .i64 tgtob,ints tgtfr,ints tgtto,ints tgtidn,aW tgtco,ints iq,ints dW]=.o (U bX.d bX.zero (l.set i ⟨⟨srcob,srcfr,srcto,srcidn,srcco⟩,⟨tgtob,tgtfr,tgtto,tgtidn,tgtco⟩,iq,dW⟩)):=mQ (n:=12) (fun _=>⟨_,rfl,rfl⟩) rfl
attribute [go_sem] bX.cells.eq_1 bX.d.eq_1 UP SJ
theorem Ky{l:List bX}{srcob:Int}{srcfr:List (Int)}{srcto:List (Int)}{srcidn:List (Int)}{srcco:List (List (Int))}{tgtob:Int}{tgtfr:List (Int)}{tgtto:List (Int)}{tgtidn:List (Int)}{tgtco:List (List (Int))}{iq:List (Int)}{dW:List (Int)}:(U bX.d bX.zero l).cZ [.agg [.int .i64 srcob,ints srcfr,ints srcto,ints srcidn,aW srcco,.int .i64 tgtob,ints tgtfr,ints tgtto,ints tgtidn,aW tgtco,ints iq,ints dW]]=U bX.d bX.zero (l++[⟨⟨srcob,srcfr,srcto,srcidn,srcco⟩,⟨tgtob,tgtfr,tgtto,tgtidn,tgtco⟩,iq,dW⟩]):=kY (f:=bX.d) (x:=⟨⟨srcob,srcfr,srcto,srcidn,srcco⟩,⟨tgtob,tgtfr,tgtto,tgtidn,tgtco⟩,iq,dW⟩)
attribute [go_sem high] Up Ky
theorem Fa(x:bX):x.d.ba=true:=by simp only[bX.d,bX.cells,D.ba,dH,bJ,ua,Bool.and_self]
def AX:List Nat:=[0,1,4]
def Iw:Sl:=ae Go.Proofs.Tryz.types Go.Proofs.Tryz.f24 AX []
theorem Qp:aD Go.Proofs.Tryz.prog Go.Proofs.Tryz.f24 AX Iw 2=true:=by decide +kernel
theorem uL(a:List (Int))(left:Int)(h0 : 0<=left)(h1:left<=1048576):al Go.Proofs.Tryz.prog 24 [.v (ints a),.v (.int .i64 left)] (.int .i64 (sb left (a.length))):=by
 refine fD fun hw=>?_
 simp only[dj,fH] at hw;obtain⟨⟨hw,-⟩,-⟩:=hw;refine aC Go.Proofs.Tryz.func24 Qp ?_;unfold Iw ae AX;simp only[go_sem];rw[J5 h0 (by simp only[maxLen];omega) hw];unfold sb;refine⟨fun h=>?_,fun h=>?_⟩
 ·rw[if_neg (by omega)]
 ·rw[if_pos (by omega)]
def AY:List Nat:=[0,1,4,2]
def Ix:Sl:=ae Go.Proofs.Tryz.types Go.Proofs.Tryz.f70 AY []
theorem Qq:aD Go.Proofs.Tryz.prog Go.Proofs.Tryz.f70 AY Ix 2=true:=by decide +kernel
theorem Tt(a:Pth)(left:Int)(h0 : 0<=left)(h1:left<=1048576):al Go.Proofs.Tryz.prog 70 [.v (Pth.d a),.v (.int .i64 left)] (.int .i64 (sb left (Pth.cost a))):=by
 refine aC Go.Proofs.Tryz.func70 Qq ?_;unfold Ix ae AY;simp only[go_sem];refine af (uL a.ed _ h0 h1) rfl (.inl rfl) ?_;simp only[go_sem];refine⟨fun hh=>?_,fun hh=>?_⟩
 ·rw[lB h0 hh (by unfold Pth.cost;omega)]
 all_goals rfl
def AZ:List Nat:=[0,1,4,5]
def Iy:Sl:=ae Go.Proofs.Tryz.types Go.Proofs.Tryz.f25 AZ []
theorem Qr:aD Go.Proofs.Tryz.prog Go.Proofs.Tryz.f25 AZ Iy 2=true:=by decide +kernel
theorem yT(a:List (Pth))(left:Int)(h0 : 0<=left)(h1:left<=1048576):al Go.Proofs.Tryz.prog 25 [.v (U Pth.d Pth.zero a),.v (.int .i64 left)] (.int .i64 (sb left (b7 Pth.cost a))):=by
 refine fD fun hw=>?_
 simp only[dj,fH] at hw;obtain⟨⟨hw,-⟩,-⟩:=hw;refine aC Go.Proofs.Tryz.func25 Qr ?_;unfold Iy ae AZ;simp only[go_sem];rw[J5 h0 (by simp only[maxLen];omega) hw];refine⟨fun h=>?_,fun h=>?_⟩
 ·unfold sb b7;rw[if_neg (by omega)]
 refine aJ [] (fun(i:Nat)=>[(1,.int .i64 (left-a.length-(((a.take i).map Pth.cost).sum:Nat))),(3,.int .i64 i)]) (fun i=>i<=a.length/\0<=left-a.length-(((a.take i).map Pth.cost).sum:Nat)) (fun i=>a.length-i) 0 rfl ⟨Nat.zero_le _,by simp;omega⟩ ?_ ?_
 ·simp only[go_sem,List.take_zero,List.map_nil,List.sum_nil];simp
 rintro i ⟨hi,ha⟩;simp only[go_sem];refine⟨fun h2=>⟨h2,af (Tt (a.getD i Pth.zero) _ ha (by omega)) rfl (.inl rfl) ?_⟩,fun h2=>?_⟩
 ·simp only[go_sem]
  refine⟨fun h3=>?_,fun h3=>?_⟩
  ·rw[Ue h2 _ h3]
  ·obtain⟨e1,e2⟩:=Ud h2 _ h3
   exact⟨i+1,⟨by omega,e2⟩,by omega,by rw[e1,aH h2 hw]⟩
 ·rw[Uc hi h2 ha]
def A1:List Nat:=[0,1,4,2]
def Iz:Sl:=ae Go.Proofs.Tryz.types Go.Proofs.Tryz.f23 A1 []
theorem Qs:aD Go.Proofs.Tryz.prog Go.Proofs.Tryz.f23 A1 Iz 2=true:=by decide +kernel
theorem GY(a:Sch)(left:Int)(h0 : 0<=left)(h1:left<=1048576):al Go.Proofs.Tryz.prog 23 [.v (Sch.d a),.v (.int .i64 left)] (.int .i64 (sb left (Sch.cost a))):=by
 refine aC Go.Proofs.Tryz.func23 Qs ?_;unfold Iz ae A1;simp only[go_sem];refine af (uL a.fr _ h0 h1) rfl (.inl rfl) ?_;simp only[go_sem];refine⟨fun hh=>?_,fun hh=>?_⟩
 ·rw[lB h0 hh (by unfold Sch.cost;omega)]
 refine af (uL a.to _ (qj hh) (Int.le_trans (qi _ h0) h1)) rfl (.inl rfl) ?_;simp only[go_sem];rw[qh hh];refine⟨fun hh=>?_,fun hh=>?_⟩
 ·rw[lB h0 hh (by unfold Sch.cost;omega)]
 refine af (yT a.lf _ (qj hh) (Int.le_trans (qi _ h0) h1)) rfl (.inl rfl) ?_;simp only[go_sem];rw[qh hh];refine⟨fun hh=>?_,fun hh=>?_⟩
 ·rw[lB h0 hh (by unfold Sch.cost;omega)]
 refine af (yT a.rt _ (qj hh) (Int.le_trans (qi _ h0) h1)) rfl (.inl rfl) ?_;simp only[go_sem];rw[qh hh];refine⟨fun hh=>?_,fun hh=>?_⟩
 ·rw[lB h0 hh (by unfold Sch.cost;omega)]
 all_goals rfl
def A2:List Nat:=[0,1,4,2]
def IA:Sl:=ae Go.Proofs.Tryz.types Go.Proofs.Tryz.f6 A2 []
theorem Qt:aD Go.Proofs.Tryz.prog Go.Proofs.Tryz.f6 A2 IA 2=true:=by decide +kernel
theorem GZ(a:Smp)(left:Int)(h0 : 0<=left)(h1:left<=1048576):al Go.Proofs.Tryz.prog 6 [.v (Smp.d a),.v (.int .i64 left)] (.int .i64 (sb left (Smp.cost a))):=by
 refine aC Go.Proofs.Tryz.func6 Qt ?_;unfold IA ae A2;simp only[go_sem];refine af (GY a.src _ h0 h1) rfl (.inl rfl) ?_;simp only[go_sem];refine⟨fun hh=>?_,fun hh=>?_⟩
 ·rw[lB h0 hh (by unfold Smp.cost;omega)]
 refine af (GY a.av _ (qj hh) (Int.le_trans (qi _ h0) h1)) rfl (.inl rfl) ?_;simp only[go_sem];rw[qh hh];refine⟨fun hh=>?_,fun hh=>?_⟩
 ·rw[lB h0 hh (by unfold Smp.cost;omega)]
 refine af (uL a.aX _ (qj hh) (Int.le_trans (qi _ h0) h1)) rfl (.inl rfl) ?_;simp only[go_sem];rw[qh hh];refine⟨fun hh=>?_,fun hh=>?_⟩
 ·rw[lB h0 hh (by unfold Smp.cost;omega)]
 refine af (yT a.aL _ (qj hh) (Int.le_trans (qi _ h0) h1)) rfl (.inl rfl) ?_;simp only[go_sem];rw[qh hh];refine⟨fun hh=>?_,fun hh=>?_⟩
 ·rw[lB h0 hh (by unfold Smp.cost;omega)]
 all_goals rfl
def A3:List Nat:=[0,2,3,4]
def IB:Sl:=ae Go.Proofs.Tryz.types Go.Proofs.Tryz.f29 A3 []
theorem Qu:aD Go.Proofs.Tryz.prog Go.Proofs.Tryz.f29 A3 IB 1=true:=by decide +kernel
theorem uM(a:List (Int))(hs:a.length<=1048576):al Go.Proofs.Tryz.prog 29 [.v (ints a)] (ints a):=by
 have hm:a.length<=maxLen:=by simp only[maxLen];omega
 refine aC Go.Proofs.Tryz.func29 Qu ?_;unfold IB ae A3;simp only[go_sem];refine⟨by omega,?_⟩;refine aJ [] (fun(i:Nat)=>[(2,.o (ints (dB a 0 i))),(3,.int .i64 i)]) (fun i=>i<=a.length) (fun i=>a.length-i) 0 rfl (Nat.zero_le _) ?_ ?_
 ·simp only[go_sem,sU];rfl
 rintro i hi;simp only[go_sem];exact⟨fun h=>⟨h,by rw[lW hi];exact h,by rw[lW hi];exact h,i+1,by omega,by omega,by rw[sT h,aH h hm]⟩,fun h=>by rw[sS h]⟩
def A4:List Nat:=[0,2,1,3]
def IC:Sl:=ae Go.Proofs.Tryz.types Go.Proofs.Tryz.f75 A4 []
theorem Qv:aD Go.Proofs.Tryz.prog Go.Proofs.Tryz.f75 A4 IC 1=true:=by decide +kernel
theorem Tu(a:Pth)(hs:Pth.cost a<=1048576):al Go.Proofs.Tryz.prog 75 [.v (Pth.d a)] (Pth.d a):=by
 have hs2:=hs;unfold Pth.cost at hs2;refine aC Go.Proofs.Tryz.func75 Qv ?_;unfold IC ae A4;simp only[go_sem];refine af (uM a.ed (by omega)) rfl (.inl (bJ _)) ?_;simp only[go_sem]
 all_goals rfl
def A5:List Nat:=[0,2,3,4]
def ID:Sl:=ae Go.Proofs.Tryz.types Go.Proofs.Tryz.f30 A5 []
theorem Qw:aD Go.Proofs.Tryz.prog Go.Proofs.Tryz.f30 A5 ID 1=true:=by decide +kernel
theorem yU(a:List (Pth))(hs:b7 Pth.cost a<=1048576):al Go.Proofs.Tryz.prog 30 [.v (U Pth.d Pth.zero a)] (U Pth.d Pth.zero a):=by
 have hm:a.length<=maxLen:=by unfold b7 at hs;simp only[maxLen];omega
 refine aC Go.Proofs.Tryz.func30 Qw ?_;unfold ID ae A5;simp only[go_sem];refine⟨by unfold b7 at hs;omega,?_⟩;refine aJ [] (fun(i:Nat)=>[(2,.o (U Pth.d Pth.zero (dB a Pth.zero i))),(3,.int .i64 i)]) (fun i=>i<=a.length) (fun i=>a.length-i) 0 rfl (Nat.zero_le _) ?_ ?_
 ·simp only[go_sem,sU];rfl
 rintro i hi;simp only[go_sem];refine⟨fun h=>⟨h,af (Tu (a.getD i Pth.zero) (Nat.le_trans (qT (cost:=Pth.cost) h _) hs)) rfl (.inl (jA _)) ?_⟩,fun h=>by rw[sS h]⟩;simp only[go_sem];exact⟨by rw[lW hi];exact h,by rw[lW hi];exact h,i+1,by omega,by omega,by rw[sT h,aH h hm]⟩
def A6:List Nat:=[0,2,1,3]
def IE:Sl:=ae Go.Proofs.Tryz.types Go.Proofs.Tryz.f28 A6 []
theorem Qx:aD Go.Proofs.Tryz.prog Go.Proofs.Tryz.f28 A6 IE 1=true:=by decide +kernel
theorem G4(a:Sch)(hs:Sch.cost a<=1048576):al Go.Proofs.Tryz.prog 28 [.v (Sch.d a)] (Sch.d a):=by
 have hs2:=hs;unfold Sch.cost at hs2;refine aC Go.Proofs.Tryz.func28 Qx ?_;unfold IE ae A6;simp only[go_sem];refine af (uM a.fr (by omega)) rfl (.inl (bJ _)) ?_;simp only[go_sem];refine af (uM a.to (by omega)) rfl (.inl (bJ _)) ?_;simp only[go_sem];refine af (yU a.lf (by omega)) rfl (.inl ((gq jA) _)) ?_;simp only[go_sem];refine af (yU a.rt (by omega)) rfl (.inl ((gq jA) _)) ?_;simp only[go_sem]
 all_goals rfl
def A7:List Nat:=[0,2,1,3]
def IF:Sl:=ae Go.Proofs.Tryz.types Go.Proofs.Tryz.f8 A7 []
theorem Qy:aD Go.Proofs.Tryz.prog Go.Proofs.Tryz.f8 A7 IF 1=true:=by decide +kernel
theorem iY(a:Smp)(hs:Smp.cost a<=1048576):al Go.Proofs.Tryz.prog 8 [.v (Smp.d a)] (Smp.d a):=by
 have hs2:=hs;unfold Smp.cost at hs2;refine aC Go.Proofs.Tryz.func8 Qy ?_;unfold IF ae A7;simp only[go_sem];refine af (G4 a.src (by omega)) rfl (.inl (pN _)) ?_;simp only[go_sem];refine af (G4 a.av (by omega)) rfl (.inl (pN _)) ?_;simp only[go_sem];refine af (uM a.aX (by omega)) rfl (.inl (bJ _)) ?_;simp only[go_sem];refine af (yU a.aL (by omega)) rfl (.inl ((gq jA) _)) ?_;simp only[go_sem]
 all_goals rfl
def AL:List Nat:=[0,1,4,2,3]
def Ij:Sl:=ae Go.Proofs.Tryz.types Go.Proofs.Tryz.f78 AL []
theorem Qd:aD Go.Proofs.Tryz.prog Go.Proofs.Tryz.f78 AL Ij 2=true:=by decide +kernel
theorem Ts(a:Pth):al Go.Proofs.Tryz.prog 78 [.v (Pth.d a),.v (Pth.d a)] (.bool true):=by
 refine aC Go.Proofs.Tryz.func78 Qd ?_;unfold Ij ae AL;simp only[go_sem];refine⟨fun h=>by simp at h,fun _=>?_⟩;refine af (uI a.ed) rfl (.inl rfl) ?_;simp only[go_sem]
 all_goals trivial
def AM:List Nat:=[0,1,4,5]
def Ik:Sl:=ae Go.Proofs.Tryz.types Go.Proofs.Tryz.f36 AM []
theorem Qe:aD Go.Proofs.Tryz.prog Go.Proofs.Tryz.f36 AM Ik 2=true:=by decide +kernel
theorem yP(a:List (Pth)):al Go.Proofs.Tryz.prog 36 [.v (U Pth.d Pth.zero a),.v (U Pth.d Pth.zero a)] (.bool true):=by
 refine fD fun hw=>?_
 simp only[dj,fH] at hw;have hm:=hw.1.1;refine aC Go.Proofs.Tryz.func36 Qe ?_;unfold Ik ae AM;simp only[go_sem];refine⟨fun h=>by simp at h,fun _=>?_⟩;refine aJ [] (fun(i:Nat)=>[(3,.int .i64 i)]) (fun i=>i<=a.length) (fun i=>a.length-i) 0 rfl (Nat.zero_le _) rfl ?_;rintro i hi;simp only[go_sem];refine fun h=>⟨h,h,af (Ts (a.getD i Pth.zero)) rfl (.inl rfl) ?_⟩
 simp only[go_sem];exact⟨i+1,by omega,by omega,by rw[aH h hm]⟩
def AN:List Nat:=[0,1,4,2,3]
def Il:Sl:=ae Go.Proofs.Tryz.types Go.Proofs.Tryz.f35 AN []
theorem Qf:aD Go.Proofs.Tryz.prog Go.Proofs.Tryz.f35 AN Il 2=true:=by decide +kernel
theorem GU(a:Sch):al Go.Proofs.Tryz.prog 35 [.v (Sch.d a),.v (Sch.d a)] (.bool true):=by
 refine aC Go.Proofs.Tryz.func35 Qf ?_;unfold Il ae AN;simp only[go_sem];refine⟨fun h=>by simp at h,fun _=>?_⟩;refine af (uI a.fr) rfl (.inl rfl) ?_;simp only[go_sem];refine af (uI a.to) rfl (.inl rfl) ?_;simp only[go_sem];refine af (yP a.lf) rfl (.inl rfl) ?_;simp only[go_sem];refine af (yP a.rt) rfl (.inl rfl) ?_;simp only[go_sem]
 all_goals trivial
def AO:List Nat:=[0,1,4,2,3]
def Im:Sl:=ae Go.Proofs.Tryz.types Go.Proofs.Tryz.f11 AO []
theorem Qg:aD Go.Proofs.Tryz.prog Go.Proofs.Tryz.f11 AO Im 2=true:=by decide +kernel
theorem rS(a:Smp):al Go.Proofs.Tryz.prog 11 [.v (Smp.d a),.v (Smp.d a)] (.bool true):=by
 refine aC Go.Proofs.Tryz.func11 Qg ?_;unfold Im ae AO;simp only[go_sem];refine af (GU a.src) rfl (.inl rfl) ?_;simp only[go_sem];refine af (GU a.av) rfl (.inl rfl) ?_;simp only[go_sem];refine af (uI a.aX) rfl (.inl rfl) ?_;simp only[go_sem];refine af (yP a.aL) rfl (.inl rfl) ?_;simp only[go_sem]
 all_goals trivial
end Go.D3
