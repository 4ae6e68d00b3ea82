/- PLAIN LAWS: the classes of short paths and their least paths, in order. -/
import Derived.Test.YtpnchponfnbmiaaGreatDoorHG
import Derived.Test.YtpnchponfnbmiaaGreatDoorProg
namespace Go.D3
open Go Proofs
set_option maxHeartbeats 4000000
set_option maxRecDepth 100000
structure az where
 kd:Int
 fi:Int
 se:Int
 th:Int
def az.cells(x:az):List D:=[.int .i64 x.kd,.int .i64 x.fi,.int .i64 x.se,.int .i64 x.th]
def az.d(x:az):D:=.agg x.cells
def az.zero:az:=⟨0,0,0,0⟩
def az.cost(_:az):Nat:=0
theorem Z2:D.slice (.agg [.int .i64 0,.int .i64 0,.int .i64 0,.int .i64 0]) []=ae az.d az.zero []:=rfl
theorem Xb{n:Nat}:D.slice (.agg [.int .i64 0,.int .i64 0,.int .i64 0,.int .i64 0]) (List.replicate n (.agg [.int .i64 0,.int .i64 0,.int .i64 0,.int .i64 0]))=ae az.d az.zero (List.replicate n az.zero):=by unfold ae;rw[List.map_replicate];rfl
theorem ZB{l:List az}{i:Nat}{kd:Int}{fi:Int}{se:Int}{th:Int}:dw (.o (ae az.d az.zero l)) [(i,0)] 0 [.int .i64 kd,.int .i64 fi,.int .i64 se,.int .i64 th]=.o (ae az.d az.zero (l.set i ⟨kd,fi,se,th⟩)):=mT (n:=4) (fun _=>⟨_,rfl,rfl⟩) rfl
attribute [go_sem] az.cells.eq_1 az.d.eq_1 Z2 Xb
theorem Ny{l:List az}{kd:Int}{fi:Int}{se:Int}{th:Int}:(ae az.d az.zero l).dj [.agg [.int .i64 kd,.int .i64 fi,.int .i64 se,.int .i64 th]]=ae az.d az.zero (l++[⟨kd,fi,se,th⟩]):=kD (f:=az.d) (x:=⟨kd,fi,se,th⟩)
attribute [go_sem high] ZB Ny
theorem H8(x:az):x.d.a7=true:=by simp only[az.d,az.cells,D.a7,db,Bool.and_self]
structure U where
 st:Int
 ed:List (Int)
def U.cells(x:U):List D:=[.int .i64 x.st,ints x.ed]
def U.d(x:U):D:=.agg x.cells
def U.zero:U:=⟨0,[]⟩
def U.cost(x:U):Nat:=x.ed.length
theorem Z6:D.slice (.agg [.int .i64 0,ints []]) []=ae U.d U.zero []:=rfl
theorem Xf{n:Nat}:D.slice (.agg [.int .i64 0,ints []]) (List.replicate n (.agg [.int .i64 0,ints []]))=ae U.d U.zero (List.replicate n U.zero):=by unfold ae;rw[List.map_replicate];rfl
theorem ZF{l:List U}{i:Nat}{st:Int}{ed:List (Int)}:dw (.o (ae U.d U.zero l)) [(i,0)] 0 [.int .i64 st,ints ed]=.o (ae U.d U.zero (l.set i ⟨st,ed⟩)):=mT (n:=2) (fun _=>⟨_,rfl,rfl⟩) rfl
attribute [go_sem] U.cells.eq_1 U.d.eq_1 Z6 Xf
theorem NC{l:List U}{st:Int}{ed:List (Int)}:(ae U.d U.zero l).dj [.agg [.int .i64 st,ints ed]]=ae U.d U.zero (l++[⟨st,ed⟩]):=kD (f:=U.d) (x:=⟨st,ed⟩)
attribute [go_sem high] ZF NC
theorem H9(x:U):x.d.a7=true:=by simp only[U.d,U.cells,D.a7,db,bT,Bool.and_self]
structure aa where
 nd:Int
 fr:List (Int)
 to:List (Int)
 lf:List (U)
 rt:List (U)
def aa.cells(x:aa):List D:=[.int .i64 x.nd,ints x.fr,ints x.to,ae U.d U.zero x.lf,ae U.d U.zero x.rt]
def aa.d(x:aa):D:=.agg x.cells
def aa.zero:aa:=⟨0,[],[],[],[]⟩
def aa.cost(x:aa):Nat:=x.fr.length+x.to.length+dB U.cost x.lf+dB U.cost x.rt
theorem Z7:D.slice (.agg [.int .i64 0,ints [],ints [],ae U.d U.zero [],ae U.d U.zero []]) []=ae aa.d aa.zero []:=rfl
theorem Xg{n:Nat}:D.slice (.agg [.int .i64 0,ints [],ints [],ae U.d U.zero [],ae U.d U.zero []]) (List.replicate n (.agg [.int .i64 0,ints [],ints [],ae U.d U.zero [],ae U.d U.zero []]))=ae aa.d aa.zero (List.replicate n aa.zero):=by unfold ae;rw[List.map_replicate];rfl
theorem ZG{l:List aa}{i:Nat}{nd:Int}{fr:List (Int)}{to:List (Int)}{lf:List (U)}{rt:List (U)}:dw (.o (ae aa.d aa.zero l)) [(i,0)] 0 [.int .i64 nd,ints fr,ints to,ae U.d U.zero lf,ae U.d U.zero rt]=.o (ae aa.d aa.zero (l.set i ⟨nd,fr,to,lf,rt⟩)):=mT (n:=5) (fun _=>⟨_,rfl,rfl⟩) rfl
attribute [go_sem] aa.cells.eq_1 aa.d.eq_1 Z7 Xg
theorem ND{l:List aa}{nd:Int}{fr:List (Int)}{to:List (Int)}{lf:List (U)}{rt:List (U)}:(ae aa.d aa.zero l).dj [.agg [.int .i64 nd,ints fr,ints to,ae U.d U.zero lf,ae U.d U.zero rt]]=ae aa.d aa.zero (l++[⟨nd,fr,to,lf,rt⟩]):=kD (f:=aa.d) (x:=⟨nd,fr,to,lf,rt⟩)
attribute [go_sem high] ZG ND
theorem Tm(x:aa):x.d.a7=true:=by simp only[aa.d,aa.cells,D.a7,db,bT,kF H9,Bool.and_self]
structure ak where
 sz:List (Int)
 mp:List (List (Int))
def ak.cells(x:ak):List D:=[ints x.sz,aF x.mp]
def ak.d(x:ak):D:=.agg x.cells
def ak.zero:ak:=⟨[],[]⟩
def ak.cost(x:ak):Nat:=x.sz.length+dB List.length x.mp
theorem Z3:D.slice (.agg [ints [],aF []]) []=ae ak.d ak.zero []:=rfl
theorem Xc{n:Nat}:D.slice (.agg [ints [],aF []]) (List.replicate n (.agg [ints [],aF []]))=ae ak.d ak.zero (List.replicate n ak.zero):=by unfold ae;rw[List.map_replicate];rfl
theorem ZC{l:List ak}{i:Nat}{sz:List (Int)}{mp:List (List (Int))}:dw (.o (ae ak.d ak.zero l)) [(i,0)] 0 [ints sz,aF mp]=.o (ae ak.d ak.zero (l.set i ⟨sz,mp⟩)):=mT (n:=2) (fun _=>⟨_,rfl,rfl⟩) rfl
attribute [go_sem] ak.cells.eq_1 ak.d.eq_1 Z3 Xc
theorem Nz{l:List ak}{sz:List (Int)}{mp:List (List (Int))}:(ae ak.d ak.zero l).dj [.agg [ints sz,aF mp]]=ae ak.d ak.zero (l++[⟨sz,mp⟩]):=kD (f:=ak.d) (x:=⟨sz,mp⟩)
attribute [go_sem high] ZC Nz
theorem vX(x:ak):x.d.a7=true:=by simp only[ak.d,ak.cells,D.a7,db,bT,mz,Bool.and_self]
structure bZ where
 sc:aa
 dt:List (ak)
 tx:List (List (az))
 gd:Int
def bZ.cells(x:bZ):List D:=[.int .i64 x.sc.nd,ints x.sc.fr,ints x.sc.to,ae U.d U.zero x.sc.lf,ae U.d U.zero x.sc.rt,ae ak.d ak.zero x.dt,ae (ae az.d az.zero) [] x.tx,.int .i64 x.gd]
def bZ.d(x:bZ):D:=.agg x.cells
def bZ.zero:bZ:=⟨aa.zero,[],[],0⟩
def bZ.cost(x:bZ):Nat:=aa.cost x.sc+dB ak.cost x.dt+dB (dB az.cost) x.tx
theorem Z5:D.slice (.agg [.int .i64 0,ints [],ints [],ae U.d U.zero [],ae U.d U.zero [],ae ak.d ak.zero [],ae (ae az.d az.zero) [] [],.int .i64 0]) []=ae bZ.d bZ.zero []:=rfl
theorem Xe{n:Nat}:D.slice (.agg [.int .i64 0,ints [],ints [],ae U.d U.zero [],ae U.d U.zero [],ae ak.d ak.zero [],ae (ae az.d az.zero) [] [],.int .i64 0]) (List.replicate n (.agg [.int .i64 0,ints [],ints [],ae U.d U.zero [],ae U.d U.zero [],ae ak.d ak.zero [],ae (ae az.d az.zero) [] [],.int .i64 0]))=ae bZ.d bZ.zero (List.replicate n bZ.zero):=by unfold ae;rw[List.map_replicate];rfl
theorem ZE{l:List bZ}{i:Nat}{scnd:Int}{scfr:List (Int)}{scto:List (Int)}{sclf:List (U)}{scrt:List (U)}{dt:List (ak)}{tx:List (List (az))}{gd:Int}:dw (.o (ae bZ.d bZ.zero l)) [(i,0)] 0 [.int .i64 scnd,ints scfr,ints scto,ae U.d U.zero sclf,ae U.d U.zero scrt,ae ak.d ak.zero dt,ae (ae az.d az.zero) [] tx,.int .i64 gd]=.o (ae bZ.d bZ.zero (l.set i ⟨⟨scnd,scfr,scto,sclf,scrt⟩,dt,tx,gd⟩)):=mT (n:=8) (fun _=>⟨_,rfl,rfl⟩) rfl
attribute [go_sem] bZ.cells.eq_1 bZ.d.eq_1 Z5 Xe
theorem NB{l:List bZ}{scnd:Int}{scfr:List (Int)}{scto:List (Int)}{sclf:List (U)}{scrt:List (U)}{dt:List (ak)}{tx:List (List (az))}{gd:Int}:(ae bZ.d bZ.zero l).dj [.agg [.int .i64 scnd,ints scfr,ints scto,ae U.d U.zero sclf,ae U.d U.zero scrt,ae ak.d ak.zero dt,ae (ae az.d az.zero) [] tx,.int .i64 gd]]=ae bZ.d bZ.zero (l++[⟨⟨scnd,scfr,scto,sclf,scrt⟩,dt,tx,gd⟩]):=kD (f:=bZ.d) (x:=⟨⟨scnd,scfr,scto,sclf,scrt⟩,dt,tx,gd⟩)
attribute [go_sem high] ZE NB
def aR(n lo hi:Int):Bool:=decide (lo<=n)&&decide (n<=hi)
def bQ(n:Int)(f:List Int):Bool:=f.all fun y=>decide (0<=y)&&decide (y<n)
def C8:List Nat:=[0,1,2,6]
def Lx:Sl:=ah Tryz.types Tryz.f112 C8 []
theorem U0:aC Tryz.prog Tryz.f112 C8 Lx 3=true:=by decide +kernel
theorem pY(n lo hi:Int):aw Tryz.prog 112 [.v (.int .i64 n),.v (.int .i64 lo),.v (.int .i64 hi)] (.bool (aR n lo hi)):=by
 unfold aR;refine aK Tryz.func112 U0 ?_;unfold Lx ah C8;simp only[go_sem]
def Cl:List Nat:=[0,1,2,6]
def KK:Sl:=ah Tryz.types Tryz.f113 Cl []
theorem Ub:aC Tryz.prog Tryz.f113 Cl KK 3=true:=by decide +kernel
theorem lL[Mode](n lo hi:Int):aw Tryz.prog 113 [.v (.int .i64 n),.v (.int .i64 lo),.v (.int .i64 hi)] (.bool (aR n lo hi)):=by
 unfold aR;refine aK Tryz.func113 Ub ?_;unfold KK ah Cl;simp only[go_sem]
def Dc:List Nat:=[0,1,4,5]
def LB:Sl:=ah Tryz.types Tryz.f80 Dc []
theorem U4:aC Tryz.prog Tryz.f80 Dc LB 2=true:=by decide +kernel
theorem tL(n:Int)(f:List Int):aw Tryz.prog 80 [.v (.int .i64 n),.v (ints f)] (.bool (bQ n f)):=by
 refine eZ fun hw=>?_
 simp only[dp,fZ] at hw;obtain⟨-,⟨hw,-⟩,-⟩:=hw;refine aK Tryz.func80 U4 ?_;unfold LB ah Dc;simp only[go_sem];refine aE [] (fun(i:Nat)=>[(3,.int .i64 i)]) (fun i=>i<=f.length/\bQ n (f.take i)=true) (fun i=>f.length-i) 0 rfl ⟨Nat.zero_le _,rfl⟩ rfl ?_;rintro i ⟨hi,ha⟩;simp only[go_sem]
 (repeat'(first | (refine And.intro ?_ ?_) | intro))<;>(try(first | trivial | assumption | omega | (simp_all;done) | (simp_all;omega)))
 ·rename_i h1 h2
  symm;refine Eh (d:=0) h1 ?_;simp only[Bool.or_eq_true,decide_eq_true_eq] at h2;simp only[Bool.and_eq_false_iff,decide_eq_false_iff_not];omega
 ·rename_i h1 h2
  simp only[Bool.or_eq_false_iff,decide_eq_false_iff_not] at h2;exact⟨i+1,⟨by omega,Eg (d:=0) h1 ha (by simp only[Bool.and_eq_true,decide_eq_true_eq];omega)⟩,by omega,by rw[aL h1 hw]⟩
 ·rename_i h1
  exact(Ee (by omega) ha).symm
def CL:List Nat:=[0,1,4,6,7,8,9]
def La:Sl:=ah Tryz.types Tryz.f87 CL []
theorem UC:aC Tryz.prog Tryz.f87 CL La 2=true:=by decide +kernel
theorem Gx{y n:Int}(hn : -4611686018427387904<=n)(hn2:n<=9223372036854775807):aR y 0 (IntKind.i64.wrap (n-1))=(decide (0<=y)&&decide (y<n)):=by
 unfold aR;rw[iG ⟨by simp[IntKind.min,IntKind.signed,IntKind.bits];omega,by simp[IntKind.max,IntKind.signed,IntKind.bits];omega⟩];congr 1;exact decide_eq_decide.2 ⟨fun h=>by omega,fun h=>by omega⟩
theorem pX(n:Int)(f:List Int)(hn : 0<=n):aw Tryz.prog 87 [.v (ints f),.v (.int .i64 n)] (.bool (bQ n f)):=by
 refine eZ fun hw=>?_
 simp only[dp,fZ,D.dG,IntKind.has,IntKind.max,IntKind.signed,IntKind.bits] at hw;obtain⟨⟨hw,-⟩,⟨-,hn2⟩,-⟩:=hw;have hp:=fun y=>Gx (y:=y) (n:=n) (by omega) (by simpa using hn2)
 refine aK Tryz.func87 UC ?_;unfold La ah CL;simp only[go_sem];refine aE [3] (fun(i:Nat)=>[(6,.int .i64 i)]) (fun i=>i<=f.length/\bQ n (f.take i)=true) (fun i=>f.length-i) 0 rfl ⟨Nat.zero_le _,rfl⟩ rfl ?_;rintro i ⟨hi,ha⟩;simp only[go_sem];refine⟨fun h=>⟨h,an (lL _ _ _) rfl (.inl rfl) ?_⟩,fun h=>(Ee (by omega) ha).symm⟩;simp only[go_sem];rw[hp];refine⟨fun h2=>?_,fun h2=>⟨i+1,⟨by omega,Eg (d:=0) h ha (by simpa using h2)⟩,by omega,by rw[aL h hw]⟩⟩;exact(Eh (d:=0) h (by rw[Bool.not_eq_true'] at h2;exact h2)).symm
theorem p6(a:List Int):∀e∈a.map (D.int .i64),e.b8=true:=fun e he=>by
 obtain⟨x,_,rfl⟩:=List.mem_map.1 he;rfl
def Cb:List Nat:=[0,2]
def Kz:Sl:=ah Tryz.types Tryz.f91 Cb []
theorem T1:aC Tryz.prog Tryz.f91 Cb Kz 1=true:=by decide +kernel
theorem kN(a:List Int)(hs:a.length<=1048576):aw Tryz.prog 91 [.v (ints a)] (ints a):=by
 refine aK Tryz.func91 T1 ?_;unfold Kz ah Cb;simp only[go_sem];exact⟨p6 a,by rw[List.length_map];omega⟩
def Dd:List Nat:=[0,2]
def LC:Sl:=ah Tryz.types Tryz.f48 Dd []
theorem U5:aC Tryz.prog Tryz.f48 Dd LC 1=true:=by decide +kernel
theorem jf(a:List Int)(hs:a.length<=1048576):aw Tryz.prog 48 [.v (ints a)] (ints a):=by
 refine aK Tryz.func48 U5 ?_;unfold LC ah Dd;simp only[go_sem];exact⟨p6 a,by rw[List.length_map];omega⟩
def Cc:List Nat:=[0,2,3,5,9,10,11]
def KA:Sl:=ah Tryz.types Tryz.f139 Cc []
theorem T2:aC Tryz.prog Tryz.f139 Cc KA 1=true:=by decide +kernel
theorem JB(a:List (List Int))(hs:dB List.length a<=1048576):aw Tryz.prog 139 [.v (aF a)] (aF a):=by
 have hl:a.length<=1048576:=by unfold dB at hs;omega
 have hm:a.length<=maxLen:=by simp only[maxLen];omega
 refine aK Tryz.func139 T2 ?_;unfold KA ah Cc;simp only[go_sem];refine⟨⟨by omega,by omega⟩,?_⟩;refine aE [3] (fun(i:Nat)=>[(6,.int .i64 i),(2,.o (aF (a.take i)))]) (fun i=>i<=a.length) (fun i=>a.length-i) 0 (by simp only[go_sem];rfl) (Nat.zero_le _) rfl ?_;rintro i hi;simp only[go_sem];refine⟨fun h=>⟨h,an (kN (a.getD i []) (Nat.le_trans (Fg (cost:=List.length) h _) hs)) rfl (.inl (bT _)) ?_⟩,fun h=>by rw[List.take_of_length_le (by omega)]⟩;simp only[go_sem];refine⟨by rw[List.length_take];omega,i+1,by omega,by omega,by rw[bN h [],aL h hm]⟩
def De:List Nat:=[0,2,3,4]
def LD:Sl:=ah Tryz.types Tryz.f130 De []
theorem U6:aC Tryz.prog Tryz.f130 De LD 1=true:=by decide +kernel
theorem JO(a:List (List Int))(hs:dB List.length a<=1048576):aw Tryz.prog 130 [.v (aF a)] (aF a):=by
 have hl:a.length<=1048576:=by unfold dB at hs;omega
 have hm:a.length<=maxLen:=by simp only[maxLen];omega
 refine aK Tryz.func130 U6 ?_;unfold LD ah De;simp only[go_sem];refine aE [] (fun(i:Nat)=>[(3,.int .i64 i),(2,.o (aF (a.take i)))]) (fun i=>i<=a.length) (fun i=>a.length-i) 0 (by simp only[go_sem];rfl) (Nat.zero_le _) rfl ?_;rintro i hi;simp only[go_sem];refine⟨fun h=>⟨h,an (jf (a.getD i []) (Nat.le_trans (Fg (cost:=List.length) h _) hs)) rfl (.inl (bT _)) ?_⟩,fun h=>by rw[List.take_of_length_le (by omega)]⟩;simp only[go_sem];refine⟨by rw[List.length_take];omega,i+1,by omega,by omega,by rw[bN h [],aL h hm]⟩
def C7:List Nat:=[0,1,4,5]
def Lw:Sl:=ah Tryz.types Tryz.f159 C7 []
theorem UZ:aC Tryz.prog Tryz.f159 C7 Lw 2=true:=by decide +kernel
theorem YJ(l:List Int)(x:Int)(hm:l.length<=1048576):aw Tryz.prog 159 [.v (ints l),.v (.int .i64 x)] (.bool (l.contains x)):=by
 refine aK Tryz.func159 UZ ?_;unfold Lw ah C7;simp only[go_sem];refine aE [] (fun(i:Nat)=>[(3,.int .i64 i)]) (fun i=>i<=l.length/\(l.take i).contains x=false) (fun i=>l.length-i) 0 (by simp only[go_sem];rfl) ⟨Nat.zero_le _,rfl⟩ rfl ?_;rintro i ⟨hi,hn⟩;simp only[go_sem];refine⟨fun h=>⟨h,fun h2=>?_,fun h2=>⟨i+1,⟨h,?_⟩,by omega,by rw[aL h (by simp only[maxLen];omega)]⟩⟩,fun h=>by rw[show i=l.length by omega,List.take_length] at hn;exact hn.symm⟩
 ·have h2:l.getD i 0=x:=by simpa using h2
  rw[aN h] at h2;exact(List.contains_iff_mem.2 (h2▸List.getElem_mem _)).symm
 ·have h2:l.getD i 0≠x:=by simpa using h2
  rw[bN h 0,List.contains_append,hn,Bool.false_or];generalize l.getD i 0=v at h2;simp;exact fun e=>h2 e.symm
def Cm:List Nat:=[0,1,2,6]
def KL:Sl:=ah Tryz.types Tryz.f137 Cm []
theorem Uc:aC Tryz.prog Tryz.f137 Cm KL 3=true:=by decide +kernel
theorem XX(l:List Int)(m n:Int)(hn : 0<=n):aw Tryz.prog 137 [.v (ints l),.v (.int .i64 m),.v (.int .i64 n)] (.bool ((l.length:Int) == m&&bQ n l)):=by
 refine aK Tryz.func137 Uc ?_;unfold KL ah Cm;simp only[go_sem];refine bu (fun _=>pX n l hn) rfl (fun h=>h) (.inl rfl) ?_;simp only[go_sem]
def CP:List Nat:=[0,1,4,5]
def Le:Sl:=ah Tryz.types Tryz.f34 CP []
theorem UH:aC Tryz.prog Tryz.f34 CP Le 2=true:=by decide +kernel
theorem tH(a:List (Int)):aw Tryz.prog 34 [.v (ints a),.v (ints a)] (.bool true):=by
 refine eZ fun hw=>?_
 simp only[dp,fZ] at hw;have hm:=hw.1.1;refine aK Tryz.func34 UH ?_;unfold Le ah CP;simp only[go_sem];refine⟨fun h=>by simp at h,fun _=>?_⟩;refine aE [] (fun(i:Nat)=>[(3,.int .i64 i)]) (fun i=>i<=a.length) (fun i=>a.length-i) 0 rfl (Nat.zero_le _) rfl ?_;rintro i hi;simp only[go_sem];exact fun h=>⟨h,h,fun h2=>by simp at h2,fun _=>⟨i+1,by omega,by omega,by rw[aL h hm]⟩⟩
def CQ:List Nat:=[0,1,4,5]
def Lf:Sl:=ah Tryz.types Tryz.f67 CQ []
theorem UI:aC Tryz.prog Tryz.f67 CQ Lf 2=true:=by decide +kernel
theorem JI(a:List (List (Int))):aw Tryz.prog 67 [.v (aF a),.v (aF a)] (.bool true):=by
 refine eZ fun hw=>?_
 simp only[dp,fZ] at hw;have hm:=hw.1.1;refine aK Tryz.func67 UI ?_;unfold Lf ah CQ;simp only[go_sem];refine⟨fun h=>by simp at h,fun _=>?_⟩;refine aE [] (fun(i:Nat)=>[(3,.int .i64 i)]) (fun i=>i<=a.length) (fun i=>a.length-i) 0 rfl (Nat.zero_le _) rfl ?_;rintro i hi;simp only[go_sem];refine fun h=>⟨h,h,an (tH (a.getD i [])) rfl (.inl rfl) ?_⟩
 simp only[go_sem];exact⟨i+1,by omega,by omega,by rw[aL h hm]⟩
end Go.D3
namespace Go.D3
open Go Proofs
set_option maxHeartbeats 4000000
set_option maxRecDepth 100000
def lE(k:Int)(a:List Int)(i:Nat):List Int:=((List.range i).map fun j:Nat=>k+j)++a.drop i
def dC(k:Int)(n:Nat):List Int:=(List.range n).map fun j:Nat=>k+j
theorem Se{k:Int}{a:List Int}:lE k a 0=a:=by simp[lE]
theorem Sa{k:Int}{a:List Int}{i:Nat}(h:i<=a.length):(lE k a i).length=a.length:=by simp[lE];omega
theorem Sb{k:Int}{a:List Int}{i:Nat}(h:i<a.length):(lE k a i).set i (k+i)=lE k a (i+1):=by
 unfold lE;rw[List.set_append_right _ _ (by simp),List.range_succ,List.map_append];simp only[List.length_map,List.length_range,Nat.sub_self,List.map_cons,List.map_nil,List.append_assoc];congr 1;rw[List.drop_eq_getElem_cons h];rfl
theorem R9{k:Int}{a:List Int}{i:Nat}(h:¬i<a.length)(hi:i<=a.length):lE k a i=dC k a.length:=by
 have:i=a.length:=by omega
 subst this;simp[lE,dC]
def CY:List Nat:=[0,1,4,5]
def Lm:Sl:=ah Tryz.types Tryz.f38 CY []
theorem UP:aC Tryz.prog Tryz.f38 CY Lm 2=true:=by decide +kernel
theorem tJ(a:List Int)(k:Int)(h0 : 0<=k)(h1:k+a.length<=4611686018427387900):aw Tryz.prog 38 [.io (.o (ints a)) (.o (ints (dC k a.length))),.v (.int .i64 k)] (.int .i64 (k+a.length)):=by
 refine eZ fun hw=>?_
 simp only[dp,fZ] at hw;have hm:a.length<=maxLen:=hw.1.1;refine aK Tryz.func38 UP ?_;unfold Lm ah CY;simp only[go_sem];refine aE [] (fun(i:Nat)=>[(1,.int .i64 (k+i)),(3,.int .i64 i),(4,.o (ints (lE k a i)))]) (fun i=>i<=a.length) (fun i=>a.length-i) 0 (by simp only[go_sem];rfl) (Nat.zero_le _) ?_ ?_
 ·simp only[go_sem,Se];simp
 rintro i hi;simp only[go_sem];rw[Sa hi];refine⟨fun h=>⟨h,h,i+1,by omega,by omega,?_⟩,fun h=>⟨by rw[show i=a.length by omega],by rw[R9 h hi]⟩⟩;rw[Sb h,aL h hm,wrap_small (by omega) (by omega)];simp only[Int.natCast_add,Int.natCast_one,Int.add_assoc]
def cL(a:List (List Int)):Nat->Nat
 | 0=>0
 | i+1=>cL a i+(a.getD i []).length
def jI(k:Int)(a:List (List Int))(i:Nat):List (List Int):=((List.range i).map fun j=>dC (k+cL a j) (a.getD j []).length)++a.drop i
def jJ(k:Int)(a:List (List Int)):List (List Int):=(List.range a.length).map fun j=>dC (k+cL a j) (a.getD j []).length
theorem Sm{k:Int}{a:List (List Int)}:jI k a 0=a:=by simp[jI]
theorem Sj{k:Int}{a:List (List Int)}{i:Nat}(h:i<=a.length):(jI k a i).length=a.length:=by simp[jI];omega
theorem Si{k:Int}{a:List (List Int)}{i:Nat}(_:i<a.length):(jI k a i).getD i []=a.getD i []:=by
 unfold jI;rw[List.getD_eq_getElem?_getD,List.getElem?_append_right (by simp),List.length_map,List.length_range,Nat.sub_self,List.getElem?_drop,Nat.add_zero,<-List.getD_eq_getElem?_getD]
theorem Sk{k:Int}{a:List (List Int)}{i:Nat}(h:i<a.length):(jI k a i).set i (dC (k+cL a i) (a.getD i []).length)=jI k a (i+1):=by
 unfold jI;rw[List.set_append_right _ _ (by simp),List.range_succ,List.map_append];simp only[List.length_map,List.length_range,Nat.sub_self,List.map_cons,List.map_nil,List.append_assoc];congr 1;rw[List.drop_eq_getElem_cons h];rfl
theorem Sh{k:Int}{a:List (List Int)}{i:Nat}(h:¬i<a.length)(hi:i<=a.length):jI k a i=jJ k a:=by
 have:i=a.length:=by omega
 subst this;simp[jI,jJ]
theorem Fe{a:List (List Int)}{i j:Nat}(h:i<=j):cL a i<=cL a j:=by
 induction h with
 | refl=>exact Nat.le_refl _
 | step _ ih=>exact Nat.le_trans ih (Nat.le_add_right _ _)
theorem Mr{L:List D}{i:Nat}{z y:D}(hz:z.isAgg=false):(L.set i .dead).set i (dQ ((L.set i .dead).getD i z) 0 y)=L.set i y:=by
 have:dQ ((L.set i .dead).getD i z) 0 y=y:=by
  rw[List.getD_eq_getElem?_getD];by_cases h:i<L.length
  ·rw[List.getElem?_set_self h];rfl
  ·rw[List.getElem?_eq_none (by simpa using h)]
   simp only[Option.getD_none];cases z<;>first | rfl | cases hz
 rw[this,List.set_set]
def CZ:List Nat:=[0,1,4,5]
def Ln:Sl:=ah Tryz.types Tryz.f68 CZ [(2,38)]
theorem UQ:aC Tryz.prog Tryz.f68 CZ Ln 2=true:=by decide +kernel
theorem JM(a:List (List Int))(k:Int)(h0 : 0<=k)(h1:k+cL a a.length<=4611686018427387900):aw Tryz.prog 68 [.io (.o (aF a)) (.o (aF (jJ k a))),.v (.int .i64 k)] (.int .i64 (k+cL a a.length)):=by
 refine eZ fun hw=>?_
 simp only[dp,fZ] at hw;have hm:a.length<=maxLen:=hw.1.1;refine aK Tryz.func68 UQ ?_;unfold Ln ah CZ;simp only[go_sem];refine aE [] (fun(i:Nat)=>[(1,.int .i64 (k+cL a i)),(3,.int .i64 i),(4,.o (aF (jI k a i)))]) (fun i=>i<=a.length) (fun i=>a.length-i) 0 (by simp only[go_sem];rfl) (Nat.zero_le _) ?_ ?_
 ·simp only[go_sem,Sm,cL];simp
 rintro i hi;simp only[go_sem];rw[Sj hi];refine⟨fun h=>⟨h,?_⟩,fun h=>⟨by rw[show i=a.length by omega],by rw[Sh h hi]⟩⟩;have hc:cL a (i+1)<=cL a a.length:=Fe h;simp only[cL] at hc;refine lv (tJ (a.getD i []) (k+cL a i) (by omega) (by omega)) (by trivial) ?_;simp only[go_sem];refine⟨_,ints (dC (k+cL a i) (a.getD i []).length),rfl,?_,rfl,i+1,by omega,by omega,?_⟩
 ·rw[Si h]
 ·rw[Mr rfl,vG,Sk h,aL h hm]
  simp only[cL,Int.natCast_add,Int.add_assoc]
theorem HB{k:Int}{n:Nat}:(dC k n).length=n:=by simp[dC]
theorem Sn{k:Int}{n i:Nat}(h:i<n):(dC k n).getD i 0=k+i:=by
 unfold dC;rw[List.getD_eq_getElem?_getD,List.getElem?_map,List.getElem?_range h];rfl
def CT:List Nat:=[0,1,4,5]
def Li:Sl:=ah Tryz.types Tryz.f42 CT []
theorem UL:aC Tryz.prog Tryz.f42 CT Li 2=true:=by decide +kernel
theorem tI(n:Nat)(k:Int)(h0 : 0<=k)(h1:k+n<=4611686018427387900):aw Tryz.prog 42 [.v (ints (dC k n)),.v (.int .i64 k)] (.int .i64 (k+n)):=by
 refine eZ fun hw=>?_
 simp only[dp,fZ,HB] at hw;have hm:n<=maxLen:=hw.1.1;refine aK Tryz.func42 UL ?_;unfold Li ah CT;simp only[go_sem];refine aE [] (fun(i:Nat)=>[(1,.int .i64 (k+i)),(3,.int .i64 i)]) (fun i=>i<=n) (fun i=>n-i) 0 (by simp only[go_sem];rfl) (Nat.zero_le _) ?_ ?_
 ·simp only[go_sem];simp
 rintro i hi;simp only[go_sem];simp only[HB];refine⟨fun h=>⟨h,?_⟩,fun h=>by rw[show i=n by omega]⟩;rw[Sn h];refine⟨fun hh=>by simp at hh,fun _=>⟨i+1,by omega,by omega,?_⟩⟩;rw[aL h hm,wrap_small (by omega) (by omega)];simp only[Int.natCast_add,Int.natCast_one,Int.add_assoc]
theorem HC{k:Int}{a:List (List Int)}:(jJ k a).length=a.length:=by simp[jJ]
theorem Sp{k:Int}{a:List (List Int)}{i:Nat}(h:i<a.length):(jJ k a).getD i []=dC (k+cL a i) (a.getD i []).length:=by
 unfold jJ;rw[List.getD_eq_getElem?_getD,List.getElem?_map,List.getElem?_range h];rfl
def CU:List Nat:=[0,1,4,5]
def Lj:Sl:=ah Tryz.types Tryz.f69 CU []
theorem UM:aC Tryz.prog Tryz.f69 CU Lj 2=true:=by decide +kernel
theorem JK(a:List (List Int))(k:Int)(h0 : 0<=k)(h1:k+cL a a.length<=4611686018427387900):aw Tryz.prog 69 [.v (aF (jJ k a)),.v (.int .i64 k)] (.int .i64 (k+cL a a.length)):=by
 refine eZ fun hw=>?_
 simp only[dp,fZ,HC] at hw;have hm:a.length<=maxLen:=hw.1.1;refine aK Tryz.func69 UM ?_;unfold Lj ah CU;simp only[go_sem];refine aE [] (fun(i:Nat)=>[(1,.int .i64 (k+cL a i)),(3,.int .i64 i)]) (fun i=>i<=a.length) (fun i=>a.length-i) 0 (by simp only[go_sem];rfl) (Nat.zero_le _) ?_ ?_
 ·simp only[go_sem,cL];simp
 rintro i hi;simp only[go_sem];simp only[HC];refine⟨fun h=>⟨h,?_⟩,fun h=>by rw[show i=a.length by omega]⟩;rw[Sp h];have hc:cL a (i+1)<=cL a a.length:=Fe h;simp only[cL] at hc;refine an (tI (a.getD i []).length (k+cL a i) (by omega) (by omega)) rfl (.inl rfl) ?_;simp only[go_sem];refine⟨fun hh=>by omega,fun _=>⟨i+1,by omega,by omega,?_⟩⟩;rw[aL h hm];simp only[cL,Int.natCast_add,Int.add_assoc]
end Go.D3
namespace Go.D3
open Go Proofs
set_option maxHeartbeats 4000000
set_option maxRecDepth 100000
theorem Rh{α:Type}{f:α->D}{d:α}{l:List α}{k:Nat}{p:Path}:qC k p (ae f d l)=ae f d l:=rfl
attribute [go_sem] Rh
def bw(fr to:List Int):Int->List Int->Option Int
 | x,[]=>some x
 | x,e::r=>if(aR e 0 ((fr.length:Int)-1)&&fr.getD e.toNat 0 == x)=true then bw fr to (to.getD e.toNat 0) r else none
def lp:Option Int->D
 | some x=>.al [.int .i64 x,.bool true]
 | none=>.al [.int .i64 0,.bool false]
theorem vh{fr to l:List Int}{x:Int}{i:Nat}(h:i<l.length):bw fr to x (l.drop i)=if(aR (l.getD i 0) 0 ((fr.length:Int)-1)&&fr.getD (l.getD i 0).toNat 0 == x)=true then bw fr to (to.getD (l.getD i 0).toNat 0) (l.drop (i+1)) else none:=by
 rw[List.drop_eq_getElem_cons h,bw,aN h]
theorem M6{n:Nat}(h:n<=maxLen):IntKind.i64.wrap ((n:Int)-1)=(n:Int)-1:=by
 simp only[maxLen] at h;exact iG ⟨by simp[IntKind.min,IntKind.signed,IntKind.bits];omega,by simp[IntKind.max,IntKind.signed,IntKind.bits];omega⟩
def BW:List Nat:=[0,1,2,6,7,9,10,11,12]
def Kj:Sl:=ah Tryz.types Tryz.f114 BW []
theorem TM:aC Tryz.prog Tryz.f114 BW Kj 3=true:=by decide +kernel
theorem XH[Mode](s:aa)(x:Int)(l:List Int)(hto:s.to.length=s.fr.length):aw Tryz.prog 114 [.v (.ptr s.cells),.v (.int .i64 x),.v (ints l)] (lp (bw s.fr s.to x l)):=by
 refine eZ fun hw=>?_
 simp only[dp,fZ,aa.cells,D.dG,ik] at hw;obtain⟨⟨-,⟨hf,-⟩,-⟩,-,⟨hl,-⟩,-⟩:=hw;refine aK Tryz.func114 TM ?_;unfold Kj ah BW;simp only[go_sem];refine aE [5] (fun(p:Nat×Int)=>[(1,.int .i64 p.2),(8,.int .i64 p.1)]) (fun p=>p.1<=l.length/\bw s.fr s.to p.2 (l.drop p.1)=bw s.fr s.to x l) (fun p=>l.length-p.1) (0,x) (by simp only[go_sem];rfl) ⟨Nat.zero_le _,rfl⟩ rfl ?_;rintro⟨i,y⟩ ⟨hi,ha⟩;simp only[go_sem];rw[M6 hf];refine⟨fun h=>⟨h,an (lL _ _ _) rfl (.inl rfl) ?_⟩,fun h=>?_⟩
 ·simp only[go_sem]
  have hstep:=vh (fr:=s.fr) (to:=s.to) (x:=y) h;simp only at ha hi;rw[hstep] at ha;have hin:aR (l.getD i 0) 0 ((s.fr.length:Int)-1)=true->0<=l.getD i 0/\l.getD i 0<s.fr.length:=by unfold aR;simp;omega
  refine⟨fun h1=>⟨h1,hin h1⟩,fun h1=>by simpa using h1,fun h1=>?_,fun h1=>?_⟩
  ·rw[<-ha,if_neg];rfl
   intro h2;simp only[Bool.and_eq_true,beq_iff_eq] at h2;rw[h2.1,h2.2] at h1;simp at h1
  ·have h2:(aR (l.getD i 0) 0 ((s.fr.length:Int)-1)&&s.fr.getD (l.getD i 0).toNat 0 == y)=true:=by
    simp only[Bool.or_eq_false_iff,Bool.not_eq_false',bne_eq_false_iff_eq] at h1;rw[h1.1,h1.2];simp
   rw[if_pos h2] at ha;simp only[Bool.and_eq_true] at h2;exact⟨by have:=hin h2.1;omega,(i+1,s.to.getD (l.getD i 0).toNat 0),⟨h,ha⟩,by show l.length-(i+1)<l.length-i;omega,by rw[aL h hl]⟩
 ·simp only at ha hi
  rw[show i=l.length by omega,List.drop_length] at ha;rw[<-ha];rfl
def aa.aO(s:aa)(p:U):Option Int:=if(aR p.st 0 (s.nd-1)&&decide (p.ed.length<=6))=true then bw s.fr s.to p.st p.ed else none
def BV:List Nat:=[0,1,4,5,3]
def Ki:Sl:=ah Tryz.types Tryz.f88 BV []
theorem TL:aC Tryz.prog Tryz.f88 BV Ki 2=true:=by decide +kernel
theorem pW[Mode](s:aa)(p:U)(hto:s.to.length=s.fr.length)(hn : 0<=s.nd):aw Tryz.prog 88 [.v (.ptr s.cells),.v (U.d p)] (lp (s.aO p)):=by
 refine eZ fun hw=>?_
 simp only[dp,fZ,aa.cells,D.dG,ik,IntKind.has,IntKind.max,IntKind.signed,IntKind.bits] at hw;have hn2:s.nd<=9223372036854775807:=by simpa using hw.1.1.2
 have hsub:IntKind.i64.wrap (s.nd-1)=s.nd-1:=iG ⟨by simp[IntKind.min,IntKind.signed,IntKind.bits];omega,by simp[IntKind.max,IntKind.signed,IntKind.bits];omega⟩;refine aK Tryz.func88 TL ?_;unfold Ki ah BV;simp only[go_sem];rw[hsub];refine an (lL _ _ _) rfl (.inl rfl) ?_;simp only[go_sem]
 have he:(aR p.st 0 (s.nd-1)&&decide (p.ed.length<=6))=!(!aR p.st 0 (s.nd-1) || decide ((6:Int)<(p.ed.length:Int))):=by
  rw[Bool.not_or,Bool.not_not,<-decide_not];congr 1;exact decide_eq_decide.2 (by omega)
 refine⟨fun h=>by simpa using h,fun h=>?_,fun h=>?_⟩
 ·unfold aa.aO;rw[he,h];rfl
 ·refine an (XH s p.st p.ed hto) rfl (.inl (by cases bw s.fr s.to p.st p.ed<;>rfl)) ?_
  have:s.aO p=bw s.fr s.to p.st p.ed:=by unfold aa.aO;rw[he,h];rfl
  rw[this];cases bw s.fr s.to p.st p.ed<;>simp only[lp]<;>simp only[go_sem]
def aa.sF(s:aa)(p q:U):Bool :=
 match s.aO p,s.aO q with
 | some a,some b=>p.st == q.st&&a == b
 | _,_=>false
def aa.gm(s:aa):Bool:=aR s.nd 0 8&&(decide (s.fr.length<=8)&&(decide (s.to.length=s.fr.length)&&(bQ s.nd s.fr&&bQ s.nd s.to)))
def aa.ja(s:aa):Bool:=decide (s.lf.length<=8)&&decide (s.rt.length=s.lf.length)
def aa.eqs(s:aa)(n:Nat):Bool:=(List.range n).all fun i=>s.sF (s.lf.getD i U.zero) (s.rt.getD i U.zero)
def aa.ok(s:aa):Bool:=s.gm&&s.ja&&s.eqs s.lf.length
theorem FP{s:aa}{n:Nat}:s.eqs (n+1)=(s.eqs n&&s.sF (s.lf.getD n U.zero) (s.rt.getD n U.zero)):=by
 unfold aa.eqs;rw[List.range_succ,List.all_append];simp
def BY:List Nat:=[0,2,3,4,5,6,7,8,9,83,84,85]
def Kl:Sl:=ah Tryz.types Tryz.f86 BY []
theorem TO:aC Tryz.prog Tryz.f86 BY Kl 1=true:=by decide +kernel
theorem JA(s:aa):aw Tryz.prog 86 [.v (.ptr s.cells)] (.bool s.ok):=by
 refine eZ fun hw=>?_
 simp only[dp,fZ,aa.cells,D.dG,ik] at hw;refine aK Tryz.func86 TO ?_;unfold Kl ah BY;simp only[go_sem];refine an (lL _ _ _) rfl (.inl rfl) ?_;simp only[go_sem];refine⟨fun h=>by simpa using h,(fun h=>by simp only[Bool.or_eq_false_iff,Bool.and_eq_true,Bool.not_eq_true',Bool.not_eq_false'] at h|-;exact h),?_⟩;refine bu (fun hg=>pX s.nd s.fr (by simp only[Bool.and_eq_true] at hg;have:=hg.1.1;unfold aR at this;simp at this;omega)) rfl (fun h=>h) (.inl rfl) ?_;simp only[go_sem];refine⟨fun h=>by simpa using h,?_⟩;refine bu (fun hg=>pX s.nd s.to (by simp only[Bool.and_eq_true] at hg;have:=hg.1.1.1;unfold aR at this;simp at this;omega)) rfl (fun h=>h) (.inl rfl) ?_;simp only[go_sem]
 have e1:s.gm=!(!aR s.nd 0 8 || decide ((8:Int)<(s.fr.length:Int)) || ((s.to.length:Int) != (s.fr.length:Int)) || !bQ s.nd s.fr || !bQ s.nd s.to):=by
  unfold aa.gm;have a1:decide (s.fr.length<=8)=!decide ((8:Int)<(s.fr.length:Int)):=by rw[<-decide_not];exact decide_eq_decide.2 (by omega)
  have a2:decide (s.to.length=s.fr.length)=!((s.to.length:Int) != (s.fr.length:Int)):=by
   by_cases h:s.to.length=s.fr.length<;>simp[h]<;>omega
  rw[a1,a2];cases aR s.nd 0 8<;>cases decide ((8:Int)<(s.fr.length:Int))<;>cases((s.to.length:Int) != (s.fr.length:Int))<;>cases bQ s.nd s.fr<;>cases bQ s.nd s.to<;>rfl
 have e2:s.ja=!(decide ((8:Int)<(s.lf.length:Int)) || ((s.rt.length:Int) != (s.lf.length:Int))):=by
  unfold aa.ja;have a1:decide (s.lf.length<=8)=!decide ((8:Int)<(s.lf.length:Int)):=by rw[<-decide_not];exact decide_eq_decide.2 (by omega)
  have a2:decide (s.rt.length=s.lf.length)=!((s.rt.length:Int) != (s.lf.length:Int)):=by
   by_cases h:s.rt.length=s.lf.length<;>simp[h]<;>omega
  rw[a1,a2,Bool.not_or]
 refine⟨fun h=>by simpa using h,fun h=>?_,fun h=>⟨fun h2=>by simpa using h2,fun h2=>?_,fun h2=>?_⟩⟩
 ·unfold aa.ok;rw[e1,h];rfl
 ·unfold aa.ok;rw[e2,h2];simp
 rw[h] at e1;rw[h2] at e2;have hto:s.to.length=s.fr.length:=by have:=e1;simp[aa.gm] at this;exact this.2.2.1
 have hn : 0<=s.nd:=by have:=e1;simp[aa.gm,aR] at this;omega
 have hrt:s.rt.length=s.lf.length:=by have:=e2;simp[aa.ja] at this;exact this.2
 have hl:s.lf.length<=maxLen:=hw.1.2.2.2.1.1;clear h h2;refine aE [2,3,4,5,6,7,8] (fun(i:Nat)=>[(11,.int .i64 i)]) (fun i=>i<=s.lf.length/\s.eqs i=true) (fun i=>s.lf.length-i) 0 (by simp only[go_sem];rfl) ⟨Nat.zero_le _,rfl⟩ rfl ?_;rintro i ⟨hi,ha⟩;simp only[go_sem];refine⟨fun h=>⟨h,by omega,an (pW s (s.lf.getD i U.zero) hto hn) rfl (.inl (by cases s.aO (s.lf.getD i U.zero)<;>rfl)) ?_⟩,fun h=>?_⟩
 ·have hE:=FP (s:=s) (n:=i)
  unfold aa.sF at hE
  have neg:s.eqs (i+1)=false->false=s.ok:=fun hf=>by
   unfold aa.ok;rw[e1,e2];symm;simp only[Bool.not_false,Bool.true_and];unfold aa.eqs at hf|-
   rw[List.all_eq_false] at hf|-
   obtain⟨x,h1,h2⟩:=hf;exact⟨x,by rw[List.mem_range] at h1|-;omega,h2⟩
  have pos:s.eqs (i+1)=true->i+1<=s.lf.length/\s.eqs (i+1)=true:=fun hp=>⟨h,hp⟩
  cases hp:s.aO (s.lf.getD i U.zero) with
  | none =>
   rw[hp,ha] at hE;have hE':=neg (by rw[hE];cases s.aO (s.rt.getD i U.zero)<;>rfl);simp only[lp];simp only[go_sem];refine an (pW s (s.rt.getD i U.zero) hto hn) rfl (.inl (by cases s.aO (s.rt.getD i U.zero)<;>rfl)) ?_;cases hq:s.aO (s.rt.getD i U.zero)<;>simp only[lp]<;>simp only[go_sem]
   all_goals exact hE'
  | some a =>
   rw[hp,ha] at hE;simp only[lp];simp only[go_sem];refine an (pW s (s.rt.getD i U.zero) hto hn) rfl (.inl (by cases s.aO (s.rt.getD i U.zero)<;>rfl)) ?_;cases hq:s.aO (s.rt.getD i U.zero)<;>simp only[lp]<;>simp only[go_sem]
   ·rw[hq] at hE;exact neg hE
   ·rename_i b
    rw[hq] at hE;simp only[Bool.true_and] at hE;refine⟨fun h=>by simpa using h,fun h=>neg ?_,fun h=>?_⟩
    ·rw[hE,Bool.and_eq_false_iff]
     simp only[Bool.or_eq_true,bne_iff_ne] at h;exact h.imp beq_eq_false_iff_ne.2 beq_eq_false_iff_ne.2
    ·simp only[Bool.or_eq_false_iff,bne_eq_false_iff_eq] at h
     exact⟨i+1,pos (by rw[hE,Bool.and_eq_true];exact⟨beq_iff_eq.2 h.1,beq_iff_eq.2 h.2⟩),by omega,by rw[aL (by omega) hl]⟩
 ·rw[show i=s.lf.length by omega] at ha
  unfold aa.ok;rw[e1,e2,ha];rfl
end Go.D3
namespace Go.D3
open Go Proofs
set_option maxHeartbeats 4000000
set_option maxRecDepth 100000
def eN(fr:List Int)(x:Int)(i:Nat):List Int:=((List.range i).filter fun e=>fr.getD e 0 == x) |>.map fun e:Nat=>(e:Int)
theorem tj{fr:List Int}{x:Int}{i:Nat}:eN fr x (i+1)=eN fr x i++(if fr.getD i 0=x then[(i:Int)] else[]):=by
 unfold eN;rw[List.range_succ,List.filter_append,List.map_append];congr 1;by_cases h:fr.getD i 0=x
 ·rw[if_pos h,List.filter_cons_of_pos (by simpa using h)];rfl
 ·rw[if_neg h,List.filter_cons_of_neg (by simpa using h)];rfl
theorem It{fr:List Int}{x:Int}{i:Nat}:(eN fr x i).length<=i:=by
 unfold eN;rw[List.length_map];exact Nat.le_trans (List.length_filter_le _ _) (by simp)
def B2:List Nat:=[0,1,4,5,6,7,12,13,14]
def Kq:Sl:=ah Tryz.types Tryz.f205 B2 []
theorem TS:aC Tryz.prog Tryz.f205 B2 Kq 2=true:=by decide +kernel
theorem XK(s:aa)(x:Int)(h8:s.fr.length<=8):aw Tryz.prog 205 [.v (.ptr s.cells),.v (.int .i64 x)] (ints (eN s.fr x s.fr.length)):=by
 refine aK Tryz.func205 TS ?_;unfold Kq ah B2;simp only[go_sem];refine aE [4,5] (fun(i:Nat)=>[(8,.int .i64 i),(3,.o (ints (eN s.fr x i)))]) (fun i=>i<=s.fr.length) (fun i=>s.fr.length-i) 0 (by simp only[go_sem];rfl) (Nat.zero_le _) rfl ?_;intro i hi;simp only[go_sem];have hl:=It (fr:=s.fr) (x:=x) (i:=i);refine⟨fun h=>⟨h,fun h1=>⟨by omega,i+1,h,by omega,?_⟩,fun h1=>⟨i+1,h,by omega,?_⟩⟩,fun h=>by rw[show i=s.fr.length by omega]⟩
 ·rw[tj,if_pos (by simpa using Eq.symm (by simpa using h1)),aL h (by simp only[maxLen];omega)]
 ·rw[tj,if_neg (by simpa using Ne.symm (by simpa using h1)),List.append_nil,aL h (by simp only[maxLen];omega)]
def Ck:List Nat:=[0,2]
def KJ:Sl:=ah Tryz.types Tryz.f136 Ck []
theorem Ua:aC Tryz.prog Tryz.f136 Ck KJ 1=true:=by decide +kernel
theorem XV(l:List Int):aw Tryz.prog 136 [.v (ints l)] (.bool (bQ 17 l)):=by
 refine aK Tryz.func136 Ua ?_;unfold KJ ah Ck;simp only[go_sem];refine an (pX 17 l (by decide)) rfl (.inl rfl) ?_;simp only[go_sem]
def iy(mp:List (List Int)):Int->List Int->Int
 | r,[]=>r
 | r,e::l=>iy mp ((mp.getD e.toNat []).getD r.toNat 0) l
def kB(mp:List (List Int)):Int->List Int->Prop
 | _,[]=>True
 | r,e::l=>(0<=e/\e<mp.length)/\(0<=r/\r<(mp.getD e.toNat []).length)/\kB mp ((mp.getD e.toNat []).getD r.toNat 0) l
theorem G6{mp:List (List Int)}{l:List Int}{r:Int}{i:Nat}(h:i<l.length):iy mp r (l.drop i)=iy mp ((mp.getD (l.getD i 0).toNat []).getD r.toNat 0) (l.drop (i+1)) /\
  (kB mp r (l.drop i)->(0<=l.getD i 0/\l.getD i 0<mp.length)/\(0<=r/\r<(mp.getD (l.getD i 0).toNat []).length)/\kB mp ((mp.getD (l.getD i 0).toNat []).getD r.toNat 0) (l.drop (i+1))):=by
 rw[List.drop_eq_getElem_cons h,iy,kB,aN h];exact⟨rfl,id⟩
def Cu:List Nat:=[0,1,2,6,8,9,10,11]
def KT:Sl:=ah Tryz.types Tryz.f138 Cu []
theorem Ul:aC Tryz.prog Tryz.f138 Cu KT 3=true:=by decide +kernel
theorem AO(mp:List (List Int))(l:List Int)(r:Int)(hok:kB mp r l):aw Tryz.prog 138 [.v (aF mp),.v (ints l),.v (.int .i64 r)] (.int .i64 (iy mp r l)):=by
 refine eZ fun hw=>?_
 simp only[dp,fZ] at hw;have hl:l.length<=maxLen:=hw.2.1.1;refine aK Tryz.func138 Ul ?_;unfold KT ah Cu;simp only[go_sem];refine aE [4] (fun(p:Nat×Int)=>[(2,.int .i64 p.2),(7,.int .i64 p.1)]) (fun p=>p.1<=l.length/\iy mp p.2 (l.drop p.1)=iy mp r l/\kB mp p.2 (l.drop p.1)) (fun p=>l.length-p.1) (0,r) (by simp only[go_sem];rfl) ⟨Nat.zero_le _,rfl,hok⟩ rfl ?_;rintro⟨i,y⟩ ⟨hi,ha,hb⟩;simp only[go_sem];simp only at hi ha hb;refine⟨fun h=>?_,fun h=>?_⟩
 ·obtain⟨e1,e2⟩:=G6 (mp:=mp) (r:=y) h
  obtain⟨b1,b2,b3⟩:=e2 hb;exact⟨h,b1,b2,(i+1,(mp.getD (l.getD i 0).toNat []).getD y.toNat 0),⟨h,e1▸ha,b3⟩,by show l.length-(i+1)<l.length-i;omega,by rw[aL h hl]⟩
 ·rw[show i=l.length by omega,List.drop_length] at ha
  rw[<-ha];rfl
def aa.lC(s:aa)(sz:List Int)(mp:List (List Int))(e:Nat):Bool:=((mp.getD e []).length:Int) == sz.getD (s.fr.getD e 0).toNat 0&&bQ (sz.getD (s.to.getD e 0).toNat 0) (mp.getD e [])
def aa.fV(s:aa)(sz:List Int)(mp:List (List Int)):Bool:=((sz.length:Int) == s.nd&&bQ 17 sz&&(mp.length == s.fr.length))&&(List.range mp.length).all (s.lC sz mp)
theorem eM{n:Int}{l:List Int}{i:Nat}(h:bQ n l=true)(hi:i<l.length) : 0<=l.getD i 0/\l.getD i 0<n:=by
 unfold bQ at h;have:=List.all_eq_true.1 h _ (List.getElem_mem hi);rw[aN hi];simpa using this
def BX:List Nat:=[0,1,2,6,7,8,31,32,33]
def Kk:Sl:=ah Tryz.types Tryz.f107 BX []
theorem TN:aC Tryz.prog Tryz.f107 BX Kk 3=true:=by decide +kernel
theorem Jz(s:aa)(sz:List Int)(mp:List (List Int))(hs:s.gm=true):aw Tryz.prog 107 [.v (.ptr s.cells),.v (ints sz),.v (aF mp)] (.bool (s.fV sz mp)):=by
 have hs1:=hs;simp only[aa.gm,Bool.and_eq_true,decide_eq_true_eq] at hs1;obtain⟨h1,h2,hto,hf,ht⟩:=hs1;have hn : 0<=s.nd/\s.nd<=8:=by unfold aR at h1;simpa using h1
 refine aK Tryz.func107 TN ?_;unfold Kk ah BX;simp only[go_sem];refine bu (fun _=>XV sz) rfl (fun h=>h) (.inl rfl) ?_;simp only[go_sem]
 have e1:s.fV sz mp=(!(((sz.length:Int) != s.nd) || !bQ 17 sz || ((mp.length:Int) != (s.fr.length:Int)))&&(List.range mp.length).all (s.lC sz mp)):=by
  unfold aa.fV
  have a2:(mp.length == s.fr.length)=!((mp.length:Int) != (s.fr.length:Int)):=by
   rw[Bool.eq_iff_iff];simp only[beq_iff_eq,Bool.not_eq_true',bne_eq_false_iff_eq];omega
  have a3:((sz.length:Int) == s.nd)=!((sz.length:Int) != s.nd):=by unfold bne;rw[Bool.not_not]
  rw[a2,a3,Bool.not_or,Bool.not_or,Bool.not_not]
 refine⟨fun h=>by simpa using h,(fun h=>by simp only[Bool.or_eq_false_iff,Bool.and_eq_true,Bool.not_eq_true',Bool.not_eq_false'] at h|-;exact h),fun h=>by rw[e1,h];rfl,fun h=>?_⟩;rw[h] at e1;simp only[Bool.or_eq_false_iff,bne_eq_false_iff_eq,Bool.not_eq_false'] at h;obtain⟨⟨hsz,h17⟩,hmp⟩:=h;refine aE [4,5] (fun(i:Nat)=>[(8,.int .i64 i)]) (fun i=>i<=mp.length/\(List.range i).all (s.lC sz mp)=true) (fun i=>mp.length-i) 0 (by simp only[go_sem];rfl) ⟨Nat.zero_le _,rfl⟩ rfl ?_;rintro i ⟨hi,ha⟩;simp only[go_sem];refine⟨fun h=>?_,fun h=>?_⟩
 ·have hfi:=eM hf (show i<s.fr.length by omega)
  have hti:=eM ht (show i<s.to.length by omega);have hnn : 0<=sz.getD (s.to.getD i 0).toNat 0:=(eM h17 (show(s.to.getD i 0).toNat<sz.length by omega)).1;refine⟨h,by omega,by omega,by omega,by omega,an (XX _ _ _ hnn) rfl (.inl rfl) ?_⟩;simp only[go_sem];have hsucc:(List.range (i+1)).all (s.lC sz mp)=s.lC sz mp i:=by rw[List.range_succ,List.all_append,ha];simp
  have neg:s.lC sz mp i=false->false=s.fV sz mp:=fun hf=>by
   rw[e1];symm;rw[Bool.not_false,Bool.true_and,List.all_eq_false];exact⟨i,List.mem_range.2 h,by rw[hf];simp⟩
  refine⟨fun h2=>neg (by rw[Bool.not_eq_true'] at h2;exact h2),fun h2=>⟨i+1,⟨h,by rw[hsucc];rw[Bool.not_eq_false'] at h2;exact h2⟩,by omega,by rw[aL h (by simp only[maxLen];omega)]⟩⟩
 ·rw[show i=mp.length by omega] at ha
  rw[e1,ha];rfl
section
variable{β:Type}{f:Nat->Option β}{i n:Nat}{b:β}
theorem vc(h:i<n)(hp:(List.range i).findSome? f=none)(hi:f i=some b):(List.range n).findSome? f=some b:=by
 obtain⟨m,rfl⟩:∃m,n=(i+1)+m:=⟨n-(i+1),by omega⟩;rw[List.range_add,List.findSome?_append,List.range_succ,List.findSome?_append,hp];simp[hi]
theorem ve(hp:(List.range i).findSome? f=none)(hi:f i=none):(List.range (i+1)).findSome? f=none:=by
 rw[List.range_succ,List.findSome?_append,hp];simp[hi]
end
def qz(mp:List (List Int))(p q:List Int)(m:Nat):Option Nat:=(List.range m).findSome? fun r:Nat=>if iy mp r p=iy mp r q then none else some r
def aa.brk(s:aa)(sz:List Int)(mp:List (List Int))(n:Nat):Option (Nat×Nat) :=
 (List.range n).findSome? fun i=>(qz mp (s.lf.getD i U.zero).ed (s.rt.getD i U.zero).ed (sz.getD (s.lf.getD i U.zero).st.toNat 0).toNat).map fun r=>(i,r)
def oS:Option (Nat×Nat)->D
 | some (i,r)=>.al [.int .i64 i,.int .i64 r]
 | none=>.al [.int .i64 (-1),.int .i64 0]
def aa.xO(s:aa)(sz:List Int)(mp:List (List Int)):Prop :=
 s.rt.length=s.lf.length/\∀i,i<s.lf.length->(0<=(s.lf.getD i U.zero).st/\(s.lf.getD i U.zero).st<sz.length)/\∀r:Nat,(r:Int)<sz.getD (s.lf.getD i U.zero).st.toNat 0 ->
  kB mp r (s.lf.getD i U.zero).ed/\kB mp r (s.rt.getD i U.zero).ed
def BU:List Nat:=[0,1,2,6,7,8,9,10,14,15,16,25,26]
def Kh:Sl:=ah Tryz.types Tryz.f108 BU []
theorem TK:aC Tryz.prog Tryz.f108 BU Kh 3=true:=by decide +kernel
theorem Jy(s:aa)(sz:List Int)(mp:List (List Int))(hok:s.xO sz mp)(hsz:∀x∈sz,x<=4611686018427387900):aw Tryz.prog 108 [.v (.ptr s.cells),.v (ints sz),.v (aF mp)] (oS (s.brk sz mp s.lf.length)):=by
 refine eZ fun hw=>?_
 simp only[dp,fZ,aa.cells,D.dG,ik] at hw;have hl:s.lf.length<=maxLen:=hw.1.2.2.2.1.1;obtain⟨hrt,hok⟩:=hok;refine aK Tryz.func108 TK ?_;unfold Kh ah BU;simp only[go_sem];refine aE [5,6,7,11,12] (fun(i:Nat)=>[(10,.int .i64 i)]) (fun i=>i<=s.lf.length/\s.brk sz mp i=none) (fun i=>s.lf.length-i) 0 (by simp only[go_sem];rfl) ⟨Nat.zero_le _,rfl⟩ rfl ?_;rintro i ⟨hi,ha⟩;simp only[go_sem];refine⟨fun h=>?_,fun h=>?_⟩
 ·obtain⟨aM,hrow⟩:=hok i h
  refine⟨h,aM,?_⟩
  have hms:sz.getD (s.lf.getD i U.zero).st.toNat 0<=4611686018427387900:=by
   have hlt:(s.lf.getD i U.zero).st.toNat<sz.length:=by omega
   rw[aN hlt];exact hsz _ (List.getElem_mem _)
  have hbrk:∀o,qz mp (s.lf.getD i U.zero).ed (s.rt.getD i U.zero).ed (sz.getD (s.lf.getD i U.zero).st.toNat 0).toNat=o->(match o with | some r=>s.brk sz mp s.lf.length=some (i,r) | none=>s.brk sz mp (i+1)=none):=by
   intro o ho;cases o with
   | some r=>exact vc h ha (by rw[ho];rfl)
   | none=>exact ve ha (by rw[ho];rfl)
  generalize hm:sz.getD (s.lf.getD i U.zero).st.toNat 0=m at hms hrow hbrk;refine aE [7] (fun(r:Nat)=>[(12,.int .i64 r)]) (fun r=>r<=m.toNat/\qz mp (s.lf.getD i U.zero).ed (s.rt.getD i U.zero).ed r=none) (fun r=>m.toNat-r) 0 (by simp only[go_sem];rfl) ⟨Nat.zero_le _,rfl⟩ rfl ?_;rintro r ⟨hr,hb⟩;simp only[go_sem];refine⟨fun h2=>?_,fun h2=>?_⟩
  ·obtain⟨o1,o2⟩:=hrow r h2
   refine an (AO mp _ r o1) rfl (.inl rfl) ?_;simp only[go_sem];refine⟨by omega,an (AO mp _ r o2) rfl (.inl rfl) ?_⟩;simp only[go_sem];refine⟨fun h3=>?_,fun h3=>⟨r+1,⟨by omega,ve hb (if_pos (by simpa using h3))⟩,by omega,by rw[wrap_small (by omega) (by omega)];rfl⟩⟩;have:=hbrk _ (vc (show r<m.toNat by omega) hb (if_neg (by simpa using h3)));simp only at this;rw[this];rfl
  ·have:=hbrk none (by rw[show m.toNat=r by omega];exact hb)
   simp only at this;exact⟨i+1,⟨h,this⟩,by omega,by rw[aL h hl]⟩
 ·rw[show i=s.lf.length by omega] at ha
  rw[ha];rfl
def Cw:List Nat:=[0,2]
def KV:Sl:=ah Tryz.types Tryz.f133 Cw []
theorem Un:aC Tryz.prog Tryz.f133 Cw KV 1=true:=by decide +kernel
theorem X7(s:aa)(hn : 0<=s.nd)(hn8:s.nd<=8)(h8:s.fr.length<=8):aw Tryz.prog 133 [.v (.ptr s.cells)] (ak.d ⟨List.replicate s.nd.toNat 0,List.replicate s.fr.length []⟩):=by
 refine aK Tryz.func133 Un ?_;unfold KV ah Cw;simp only[go_sem];omega
def Ch:List Nat:=[0,2,1]
def KF:Sl:=ah Tryz.types Tryz.f169 Ch []
theorem T7:aC Tryz.prog Tryz.f169 Ch KF 1=true:=by decide +kernel
theorem XT(d:ak)(h1:d.sz.length<=1048576)(h2:dB List.length d.mp<=1048576):aw Tryz.prog 169 [.v (ak.d d)] (ak.d d):=by
 refine aK Tryz.func169 T7 ?_;unfold KF ah Ch;simp only[go_sem];refine an (kN d.sz h1) rfl (.inl (bT _)) ?_;simp only[go_sem];refine an (JB d.mp h2) rfl (.inl (mz _)) ?_;simp only[go_sem]
 all_goals rfl
def az.okB(c:az):Bool:=if c.kd=1 then c.se == 0&&c.th == 0 else c.kd == 2
def BP:List Nat:=[0,2,1,4]
def Kc:Sl:=ah Tryz.types Tryz.f204 BP []
theorem TF:aC Tryz.prog Tryz.f204 BP Kc 1=true:=by decide +kernel
theorem XE(c:az):aw Tryz.prog 204 [.v (az.d c)] (.bool c.okB):=by
 unfold az.okB;refine aK Tryz.func204 TF ?_;unfold Kc ah BP;simp only[go_sem];refine⟨fun h=>by rw[if_pos h],fun h=>?_⟩;rw[if_neg (by simpa using h)];exact⟨fun h2=>by simp[h2],fun h2=>h2.symm⟩
end Go.D3
namespace Go.D3
open Go Proofs
set_option maxHeartbeats 4000000
set_option maxRecDepth 100000
structure au where
 ob:Int
 fr:List (Int)
 to:List (Int)
 aU:List (Int)
 co:List (List (Int))
def au.cells(x:au):List D:=[.int .i64 x.ob,ints x.fr,ints x.to,ints x.aU,aF x.co]
def au.d(x:au):D:=.agg x.cells
def au.zero:au:=⟨0,[],[],[],[]⟩
def au.cost(x:au):Nat:=x.fr.length+x.to.length+x.aU.length+dB List.length x.co
theorem Z1:D.slice (.agg [.int .i64 0,ints [],ints [],ints [],aF []]) []=ae au.d au.zero []:=rfl
theorem Xa{n:Nat}:D.slice (.agg [.int .i64 0,ints [],ints [],ints [],aF []]) (List.replicate n (.agg [.int .i64 0,ints [],ints [],ints [],aF []]))=ae au.d au.zero (List.replicate n au.zero):=by unfold ae;rw[List.map_replicate];rfl
theorem ZA{l:List au}{i:Nat}{ob:Int}{fr:List (Int)}{to:List (Int)}{aU:List (Int)}{co:List (List (Int))}:dw (.o (ae au.d au.zero l)) [(i,0)] 0 [.int .i64 ob,ints fr,ints to,ints aU,aF co]=.o (ae au.d au.zero (l.set i ⟨ob,fr,to,aU,co⟩)):=mT (n:=5) (fun _=>⟨_,rfl,rfl⟩) rfl
attribute [go_sem] au.cells.eq_1 au.d.eq_1 Z1 Xa
attribute [go_sem high] ZA
theorem H7(x:au):x.d.a7=true:=by simp only[au.d,au.cells,D.a7,db,bT,mz,Bool.and_self]
def Di:List Nat:=[0,1,2,6]
def LJ:Sl:=ah Tryz.types Tryz.f163 Di []
theorem Va:aC Tryz.prog Tryz.f163 Di LJ 3=true:=by decide +kernel
theorem JP(l:List Int)(n ob:Int):aw Tryz.prog 163 [.v (ints l),.v (.int .i64 n),.v (.int .i64 ob)] (.bool ((l.length:Int) == n&&bQ ob l)):=by
 refine aK Tryz.func163 Va ?_;unfold LJ ah Di;simp only[go_sem];refine bu (fun h=>tL ob l) rfl (fun h=>by simp[h]) (.inl rfl) ?_;simp only[go_sem]
def dI(n:Nat)(p:Nat->Bool):Bool:=(List.range n).all p
theorem lR{n:Nat}{p:Nat->Bool}:dI n p=true↔∀i,i<n->p i=true:=by simp[dI]
theorem qp{n:Nat}{p:Nat->Bool}(h:dI n p=true)(hp:p n=true):dI (n+1) p=true:=by
 rw[lR] at *;intro i hi;by_cases h1:i<n
 ·exact h i h1
 ·rw[show i=n by omega];exact hp
theorem xw{n i:Nat}{p:Nat->Bool}(hi:i<n)(hp:p i=false):dI n p=false:=by
 cases h:dI n p with
 | false=>rfl
 | true=>rw[lR.1 h i hi] at hp;cases hp
def au.preB(c:au):Bool:=aR c.ob 0 8&&decide (c.fr.length<=40)&&bQ c.ob c.fr&&((c.to.length:Int) == c.fr.length)&&bQ c.ob c.to&&((c.co.length:Int) == c.fr.length)&&((c.aU.length:Int) == c.ob)&&bQ c.fr.length c.aU
def au.me(c:au)(x:Nat):Bool:=c.fr.getD (c.aU.getD x 0).toNat 0 == (x:Int)&&c.to.getD (c.aU.getD x 0).toNat 0 == (x:Int)
def au.cell(c:au)(f g:Nat):Int:=(c.co.getD f []).getD g 0
def au.iq(c:au)(f g:Nat):Bool :=
 if c.to.getD f 0 != c.fr.getD g 0 then c.cell f g == -1
 else decide (0<=c.cell f g)&&decide (c.cell f g<c.fr.length)&&(c.fr.getD (c.cell f g).toNat 0 == c.fr.getD f 0)&&(c.to.getD (c.cell f g).toNat 0 == c.to.getD g 0)
def au.kO(c:au)(f:Nat):Bool:=((c.co.getD f []).length:Int) == c.fr.length&&dI c.fr.length (c.iq f)
def au.iD(c:au):Bool:=c.preB&&dI c.aU.length c.me&&dI c.fr.length c.kO
structure au.Pre(c:au):Prop where
 rm : 0<=c.ob
 zC:c.ob<=8
 fr:c.fr.length<=40
 yJ:bQ c.ob c.fr=true
 to:c.to.length=c.fr.length
 BG:bQ c.ob c.to=true
 co:c.co.length=c.fr.length
 aU:(c.aU.length:Int)=c.ob
 yT:bQ c.fr.length c.aU=true
theorem au.IM{c:au}:c.preB=true↔c.Pre:=by
 simp only[au.preB,aR,Bool.and_eq_true,decide_eq_true_eq,beq_iff_eq];constructor
 ·rintro⟨⟨⟨⟨⟨⟨⟨⟨h1,h2⟩,h3⟩,h4⟩,h5⟩,h6⟩,h7⟩,h8⟩,h9⟩
  exact⟨h1,h2,h3,h4,by omega,h6,by omega,h8,h9⟩
 ·rintro⟨h1,h2,h3,h4,h5,h6,h7,h8,h9⟩
  exact⟨⟨⟨⟨⟨⟨⟨⟨h1,h2⟩,h3⟩,h4⟩,by omega⟩,h6⟩,by omega⟩,h8⟩,h9⟩
structure au.Shape(c:au):Prop extends au.Pre c where
 ids:∀x,x<c.aU.length->c.me x=true
 row:∀f,f<c.fr.length->(c.co.getD f []).length=c.fr.length
 cells:∀f g,f<c.fr.length->g<c.fr.length->c.iq f g=true
theorem au.wP{c:au}:c.iD=true↔c.Shape:=by
 simp only[au.iD,au.kO,Bool.and_eq_true,lR,au.IM,beq_iff_eq];constructor
 ·rintro⟨⟨h1,h2⟩,h3⟩
  exact⟨h1,h2,fun f hf=>by have:=(h3 f hf).1;omega,fun f g hf hg=>(h3 f hf).2 g hg⟩
 ·rintro⟨h1,h2,h3,h4⟩
  exact⟨⟨h1,h2⟩,fun f hf=>⟨by have:=h3 f hf;omega,fun g hg=>h4 f g hf hg⟩⟩
theorem au.Pre.jE{c:au}(h:c.Pre):c.aU.length<=8:=by have:=h.aU;have:=h.zC;omega
theorem au.Pre.idx{c:au}(h:c.Pre){x:Nat}(hx:x<c.aU.length) : 0<=c.aU.getD x 0/\c.aU.getD x 0<c.fr.length:=eM h.yT hx
theorem au.HS{c:au}{x:Nat}(hx:x<c.aU.length)(h:c.me x=false):c.iD=false:=by
 unfold au.iD;rw[xw hx h];simp
theorem au.zy{c:au}{f:Nat}(hf:f<c.fr.length)(h:c.kO f=false):c.iD=false:=by
 unfold au.iD;rw[xw hf h];simp
theorem au.vT{c:au}{f g:Nat}(hf:f<c.fr.length)(hg:g<c.fr.length)(h:c.iq f g=false):c.iD=false:=by
 refine au.zy hf ?_;unfold au.kO;rw[xw hg h];simp
theorem au.GJ{c:au}(hp:c.Pre)(h1:dI c.aU.length c.me=true)(h2:dI c.fr.length c.kO=true):c.iD=true:=by
 unfold au.iD;rw[h1,h2,au.IM.2 hp];rfl
theorem au.vU{c:au}(h:¬c.Pre):c.iD=false:=by
 cases hs:c.iD with
 | false=>rfl
 | true=>exact absurd (au.wP.1 hs).toPre h
theorem nW{P:Nat->Prop}{n:Nat}(h:∀j,j<n->P j)(hn:P n):∀j,j<n+1->P j:=fun j hj=>by
 by_cases h1:j<n
 ·exact h j h1
 ·rw[show j=n by omega];exact hn
theorem l6{α:Type}{F:Nat->Option α}:∀(n:Nat),(∀j,j<n->F j=none)->(List.range n).findSome? F=none:=by
 intro n h;rw[List.findSome?_eq_none_iff];intro x hx;exact h x (by simpa using hx)
theorem sH{α:Type}{F:Nat->Option α}{i:Nat}{r:α}:∀(n:Nat),(∀j,j<i->F j=none)->i<n->F i=some r->(List.range n).findSome? F=some r
 | 0,_,h,_=>by omega
 | n+1,h0,h1,h2=>by
  rw[List.range_succ,List.findSome?_append];by_cases h:i<n
  ·rw[sH n h0 h h2];rfl
  ·have:i=n:=by omega
   subst this;rw[l6 i h0];simp[h2]
def au.ck(c:au)(f g:Int):Int:=(c.co.getD f.toNat []).getD g.toNat 0
def au.iQ(c:au)(x:Int):Int:=c.aU.getD x.toNat 0
def au.o9(c:au)(f:Nat):Bool:=c.ck (c.iQ (c.fr.getD f 0)) f != f || c.ck f (c.iQ (c.to.getD f 0)) != f
def au.eu(c:au)(f g h:Nat):Bool:=c.to.getD f 0 == c.fr.getD g 0&&c.to.getD g 0 == c.fr.getD h 0&&c.ck (c.ck f g) h != c.ck f (c.ck g h)
def au.l5(c:au):Int×Int×Int×Int :=
 match(List.range c.fr.length).findSome? fun f=>if c.o9 f then some f else none with
 | some f=>(1,f,0,0)
 | none=>match(List.range c.fr.length).findSome? fun f=>(List.range c.fr.length).findSome? fun g=>(List.range c.fr.length).findSome? fun h=>if c.eu f g h then some (f,g,h) else none with
  | some (f,g,h)=>(2,f,g,h)
  | none=>(0,0,0,0)
section
variable{c:au}
theorem au.Et{f g h:Nat}(h2:c.to.getD f 0≠c.fr.getD g 0):c.eu f g h=false:=by unfold au.eu;rw[beq_eq_false_iff_ne.2 h2];rfl
theorem au.Eu{f g h:Nat}(h2:c.to.getD f 0=c.fr.getD g 0):c.eu f g h=(c.to.getD g 0 == c.fr.getD h 0&&c.ck (c.ck f g) h != c.ck f (c.ck g h)):=by unfold au.eu;rw[beq_iff_eq.2 h2];rfl
theorem au.FZ{f:Nat}(h0:∀j,j<f->c.o9 j=false)(h1:f<c.fr.length)(h2:c.o9 f=true):c.l5=(1,(f:Int),0,0):=by
 unfold au.l5;rw[sH (i:=f) (r:=f) _ (fun j hj=>by simp[h0 j hj]) h1 (by simp[h2])]
theorem au.F3(h0:∀j,j<c.fr.length->c.o9 j=false)(h:∀f g h,f<c.fr.length->g<c.fr.length->h<c.fr.length->c.eu f g h=false):c.l5=(0,0,0,0):=by
 unfold au.l5;rw[l6 _ (fun j hj=>by simp[h0 j hj])];simp only;rw[l6 _ fun f hf=>l6 _ fun g hg=>l6 _ fun h' hh=>by simp[h f g h' hf hg hh]]
theorem au.FY{f g h:Nat}(h0:∀j,j<c.fr.length->c.o9 j=false)(hf:f<c.fr.length)(hg:g<c.fr.length)(hh:h<c.fr.length)(h1:c.eu f g h=true)
  (h2:∀h',h'<h->c.eu f g h'=false) (h3:∀g' h',g'<g->h'<c.fr.length->c.eu f g' h'=false) (h4:∀f' g' h',f'<f->g'<c.fr.length->h'<c.fr.length->c.eu f' g' h'=false):c.l5=(2,(f:Int),(g:Int),(h:Int)):=by
 unfold au.l5;rw[l6 _ (fun j hj=>by simp[h0 j hj])];simp only
 rw[sH (i:=f) (r:=(f,g,h)) _ (fun f' hf'=>l6 _ fun g' hg'=>l6 _ fun h' hh'=>by simp[h4 f' g' h' hf' hg' hh']) hf
  (sH (i:=g) _ (fun g' hg'=>l6 _ fun h' hh'=>by simp[h3 g' h' hg' hh']) hg (sH (i:=h) _ (fun h' hh'=>by simp[h2 h' hh']) hh (by simp[h1])))]
theorem au.Shape.Gb(hs:c.Shape){f:Nat}(hf:f<c.fr.length) : 0<=c.fr.getD f 0/\c.fr.getD f 0<c.aU.length:=by
 have:=eM hs.yJ hf;have:=hs.aU;omega
theorem au.Shape.MS(hs:c.Shape){f:Nat}(hf:f<c.fr.length) : 0<=c.to.getD f 0/\c.to.getD f 0<c.aU.length:=by
 have:=eM hs.BG (i:=f) (by have:=hs.to;omega);have:=hs.aU;omega
theorem au.Shape.sM(hs:c.Shape){x:Int}(h0 : 0<=x)(h1:x<c.aU.length) : 0<=c.iQ x/\c.iQ x<c.fr.length:=hs.toPre.idx (x:=x.toNat) (by omega)
theorem au.Shape.AW(hs:c.Shape){f:Int}(h0 : 0<=f)(h1:f<c.fr.length):(c.co.getD f.toNat []).length=c.fr.length:=hs.row f.toNat (by omega)
theorem au.Shape.qB(hs:c.Shape){f g:Nat}(hf:f<c.fr.length)(hg:g<c.fr.length)(h:c.to.getD f 0=c.fr.getD g 0) : 0<=c.ck f g/\c.ck f g<c.fr.length/\c.fr.getD (c.ck f g).toNat 0=c.fr.getD f 0/\c.to.getD (c.ck f g).toNat 0=c.to.getD g 0:=by
 have hc:=hs.cells f g hf hg;unfold au.iq at hc;rw[if_neg (by simp only[h,bne_self_eq_false];decide)] at hc;have e:c.cell f g=c.ck f g:=by simp[au.cell,au.ck]
 simp only[e,Bool.and_eq_true,decide_eq_true_eq,beq_iff_eq] at hc;exact⟨hc.1.1.1,hc.1.1.2,hc.1.2,hc.2⟩
theorem au.Shape.E1(hs:c.Shape){f g:Nat}(hf:f<c.fr.length)(hg:g<c.fr.length)(h:c.to.getD f 0≠c.fr.getD g 0):c.ck f g=-1:=by
 have hc:=hs.cells f g hf hg;unfold au.iq at hc;rw[if_pos (by simpa using h)] at hc;have e:c.cell f g=c.ck f g:=by simp[au.cell,au.ck]
 rw[e] at hc;simpa using hc
end
def fd(r:Int×Int×Int×Int):D:=.al [.int .i64 r.1,.int .i64 r.2.1,.int .i64 r.2.2.1,.int .i64 r.2.2.2]
def au.kr(c:au):Bool:=c.iD&&c.l5.1 == 0
def C2:List Nat:=[0,2,1,3,4,5,6,7]
def Lq:Sl:=ah Tryz.types Tryz.f128 C2 []
theorem UT:aC Tryz.prog Tryz.f128 C2 Lq 1=true:=by decide +kernel
theorem YE(c:au):aw Tryz.prog 128 [.v c.d] (.bool c.iD):=by
 refine aK Tryz.func128 UT ?_;unfold Lq ah C2;simp only[go_sem];refine an (pY _ _ _) rfl (.inl rfl) ?_;simp only[go_sem];refine⟨fun h=>by simpa using h,?_⟩;refine bu (fun h=>JP c.fr c.fr.length c.ob) rfl (fun h=>by simpa using h) (.inl rfl) ?_;simp only[go_sem];refine⟨fun h=>by simp_all,?_⟩;refine bu (fun h=>JP c.to c.fr.length c.ob) rfl (fun h=>by simpa using h) (.inl rfl) ?_;simp only[go_sem];refine⟨fun h=>by simp_all,fun h=>by simp_all,fun h=>?_,fun h=>?_⟩
 ·symm;refine au.vU fun hp=>?_
  have h1:aR c.ob 0 8=true:=by simp[aR,hp.rm,hp.zC]
  have h2:=hp.fr;simp[h1,hp.yJ,hp.to,hp.BG,hp.co] at h;omega
 refine bu (fun h=>tL c.fr.length c.aU) rfl (fun h=>by simpa using h) (.inl rfl) ?_;simp only[go_sem];refine⟨fun h=>by simp_all,fun h2=>?_,fun h2=>?_⟩
 ·symm;refine au.vU fun hp=>?_
  simp[hp.aU,hp.yT] at h2
 have hp:c.Pre:=by
  simp only[Bool.or_eq_false_iff,Bool.not_eq_false',bne_eq_false_iff_eq,decide_eq_false_iff_not,aR,Bool.and_eq_true,decide_eq_true_eq,beq_iff_eq] at h h2;obtain⟨⟨⟨⟨h1,h3⟩,h4⟩,h5⟩,h6⟩:=h;exact⟨h1.1,h1.2,by omega,h4.2,by omega,h5.2,by omega,h2.1,h2.2⟩
 clear h h2;refine aE [] (fun(x:Nat)=>[(4,.int .i64 x)]) (fun x=>x<=c.aU.length/\dI x c.me=true) (fun x=>c.aU.length-x) 0 rfl ⟨Nat.zero_le _,rfl⟩ rfl ?_;rintro x ⟨hx,ha⟩;simp only[go_sem];have hob:=hp.aU;refine⟨fun h=>?_,fun h=>?_⟩
 ·have hx':x<c.aU.length:=by omega
  have hid:=hp.idx hx';have hto:=hp.to;refine⟨hx',hid,fun h=>⟨h,hx'⟩,fun h=>⟨h,hid.1,by omega⟩,fun h=>by simpa using h,fun h=>?_,fun h=>?_⟩
  ·exact(au.HS hx' (by simp only[au.me];rw[Bool.or_eq_true,bne_iff_ne,bne_iff_ne] at h;rw[Bool.and_eq_false_iff,beq_eq_false_iff_ne,beq_eq_false_iff_ne];exact h)).symm
  ·exact⟨x+1,⟨by omega,qp ha (by simpa[au.me] using h)⟩,by omega,by rw[aL hx' (by have:=hp.jE;simp only[maxLen];omega)]⟩
 have hx':x=c.aU.length:=by omega
 subst hx';have hm:=hp.fr;have hco:=hp.co;have hto:=hp.to;refine aE [6,7] (fun(f:Nat)=>[(5,.int .i64 f)]) (fun f=>f<=c.fr.length/\dI f c.kO=true) (fun f=>c.fr.length-f) 0 rfl ⟨Nat.zero_le _,rfl⟩ rfl ?_;rintro f ⟨hf,hb⟩;simp only[go_sem];refine⟨fun hfl=>⟨by omega,fun h2=>?_,fun h2=>?_⟩,fun h=>?_⟩
 ·exact(au.zy hfl (by simp only[au.kO];rw[Bool.and_eq_false_iff];left;simpa using h2)).symm
 ·refine aE [7] (fun(g:Nat)=>[(6,.int .i64 g)]) (fun g=>g<=c.fr.length/\dI g (c.iq f)=true) (fun g=>c.fr.length-g) 0 rfl ⟨Nat.zero_le _,rfl⟩ rfl ?_
  rintro g ⟨hg,hc⟩;simp only[go_sem]
  have hrow:(c.co.getD f []).length=c.fr.length:=by
   rw[bne_eq_false_iff_eq] at h2;omega
  have hcb:c.iq f g=if c.to.getD f 0 != c.fr.getD g 0 then(c.co.getD f []).getD g 0 == -1
   else decide (0<=(c.co.getD f []).getD g 0)&&decide ((c.co.getD f []).getD g 0<c.fr.length)&&(c.fr.getD ((c.co.getD f []).getD g 0).toNat 0 == c.fr.getD f 0)&&(c.to.getD ((c.co.getD f []).getD g 0).toNat 0 == c.to.getD g 0):=rfl
  generalize(c.co.getD f []).getD g 0=h at hcb;refine⟨fun hgl=>?_,fun hgl=>?_⟩
  ·have step:c.iq f g=true->∃x',(x'<=c.fr.length/\dI x' (c.iq f)=true)/\c.fr.length-x'<c.fr.length-g/\IntKind.i64.wrap ((g:Int)+1)=(x':Int):=fun hh=>⟨g+1,⟨by omega,qp hc hh⟩,by omega,aL hgl (by simp only[maxLen];omega)⟩
   refine⟨by omega,by omega,by omega,hgl,fun h3=>⟨fun h4=>?_,fun h4=>?_⟩,fun h3=>⟨fun h4=>by simp_all,fun h4=>⟨h4,by simp at h4;omega⟩,fun h4=>⟨h4,by omega⟩,fun h4=>by simpa only[<-Bool.not_or,Bool.not_eq_true'] using h4,fun h4=>⟨h4,by simp at h4;omega⟩,fun h4=>⟨h4,by omega⟩,fun h4=>by simpa only[<-Bool.not_or,Bool.not_eq_true'] using h4,fun h4=>?_,fun h4=>?_⟩⟩
   ·exact(au.vT hfl hgl (by rw[hcb,if_pos h3];simpa using h4)).symm
   ·obtain⟨x',e1,e2,e3⟩:=step (by rw[hcb,if_pos h3];simpa using h4)
    exact⟨x',e1,e2,by rw[e3]⟩
   ·refine(au.vT hfl hgl ?_).symm
    rw[hcb,if_neg (by rw[h3];decide)];simp only[Bool.or_eq_true,decide_eq_true_eq,bne_iff_ne] at h4;simp only[Bool.and_eq_false_iff,decide_eq_false_iff_not,beq_eq_false_iff_ne];omega
   ·obtain⟨x',e1,e2,e3⟩:=step (by
     rw[hcb,if_neg (by rw[h3];decide)];simp only[Bool.or_eq_false_iff,decide_eq_false_iff_not,bne_eq_false_iff_eq] at h4;simp only[Bool.and_eq_true,decide_eq_true_eq,beq_iff_eq]
     omega)
    exact⟨x',e1,e2,by rw[e3]⟩
  ·have:g=c.fr.length:=by omega
   subst this;refine⟨f+1,⟨by omega,qp hb (by simp only[au.kO];rw[hc,hrow];simp)⟩,by omega,by rw[aL hfl (by simp only[maxLen];omega)]⟩
 ·have:f=c.fr.length:=by omega
  subst this;exact(au.GJ hp ha hb).symm
def Dj:List Nat:=[0,2,3,4,5,1,6,7,8,9,10]
def LK:Sl:=ah Tryz.types Tryz.f129 Dj []
theorem Vb:aC Tryz.prog Tryz.f129 Dj LK 1=true:=by decide +kernel
theorem YN(c:au)(hs:c.Shape):aw Tryz.prog 129 [.v c.d] (fd c.l5):=by
 have hm:=hs.fr;have hml:c.fr.length<=maxLen:=by simp only[maxLen];omega
 have hto:=hs.to;have hco:=hs.co;have cI:∀f g:Int,(c.co.getD f.toNat []).getD g.toNat 0=c.ck f g:=fun _ _=>rfl
 have iI:∀x:Int,c.aU.getD x.toNat 0=c.iQ x:=fun _=>rfl
 refine aK Tryz.func129 Vb ?_;unfold LK ah Dj;simp only[go_sem];refine aE [] (fun(f:Nat)=>[(7,.int .i64 f)]) (fun f=>f<=c.fr.length/\∀j,j<f->c.o9 j=false) (fun f=>c.fr.length-f) 0 rfl ⟨Nat.zero_le _,fun j hj=>by omega⟩ rfl ?_;rintro f ⟨hf,ha⟩;simp only[go_sem];refine⟨fun h=>?_,fun h=>?_⟩
 ·have e1:=hs.Gb h
  have e2:=hs.sM e1.1 e1.2;have e3:=hs.AW e2.1 e2.2;have e4:=hs.MS h;have e5:=hs.sM e4.1 e4.2;have e6:=hs.row f h;simp only[au.iQ] at e2 e3 e5;refine⟨h,e1,⟨e2.1,by omega⟩,by omega,fun h2=>⟨h2,by omega⟩,fun h2=>⟨h2,by omega⟩,fun h2=>⟨h2,e4⟩,fun h2=>⟨h2,e5.1,by omega⟩,fun h2=>by simpa only[Bool.not_eq_true'] using h2,fun h2=>?_,fun h2=>?_⟩
  ·rw[au.FZ ha h h2];rfl
  ·exact⟨f+1,⟨by omega,fun j hj=>by by_cases hjf:j<f;exact ha j hjf;rw[show j=f by omega];exact h2⟩,by omega,by rw[aL h hml]⟩
 have:f=c.fr.length:=by omega
 subst this;refine aE [9,10] (fun(f:Nat)=>[(8,.int .i64 f)]) (fun f=>f<=c.fr.length/\∀f' g' h',f'<f->g'<c.fr.length->h'<c.fr.length->c.eu f' g' h'=false) (fun f=>c.fr.length-f) 0 rfl ⟨Nat.zero_le _,fun _ _ _ hj=>by omega⟩ rfl ?_;rintro f ⟨hf,hb⟩;simp only[go_sem];refine⟨fun hfl=>?_,fun h=>?_⟩
 ·refine aE [10] (fun(g:Nat)=>[(9,.int .i64 g)]) (fun g=>g<=c.fr.length/\∀g' h',g'<g->h'<c.fr.length->c.eu f g' h'=false) (fun g=>c.fr.length-g) 0 rfl ⟨Nat.zero_le _,fun _ _ hj=>by omega⟩ rfl ?_
  rintro g ⟨hg,hc⟩;simp only[go_sem];refine⟨fun hgl=>⟨by omega,hgl,fun h2=>?_,fun h2=>?_⟩,fun h=>?_⟩
  ·refine⟨g+1,⟨by omega,fun g' h' hg' hh'=>nW (P:=fun g'=>c.eu f g' h'=false) (fun j hj=>hc j h' hj hh') ?_ g' hg'⟩,by omega,by rw[aL hgl hml]⟩
   rw[bne_iff_ne] at h2;exact au.Et h2
  ·rw[bne_eq_false_iff_eq] at h2
   have e1:=hs.qB hfl hgl h2;refine aE [] (fun(h:Nat)=>[(10,.int .i64 h)]) (fun h=>h<=c.fr.length/\∀h',h'<h->c.eu f g h'=false) (fun h=>c.fr.length-h) 0 rfl ⟨Nat.zero_le _,fun _ hj=>by omega⟩ rfl ?_;rintro h ⟨hh,hd⟩;simp only[go_sem];have e3:=hs.AW e1.1 e1.2.1;have e4:=hs.row f hfl;have e5:=hs.row g hgl;have hasf:=fun h=>au.Eu (h:=h) h2
   refine⟨fun hhl=>?_,fun h3=>?_⟩
   ·have e6:=hs.qB hgl hhl
    refine⟨by omega,hhl,fun h3=>⟨h3,by omega⟩,fun h3=>⟨h3,by omega⟩,fun h3=>⟨h3,e1.1,by rw[hco];exact e1.2.1⟩,fun h3=>⟨h3,Nat.lt_of_lt_of_eq hhl e3.symm⟩,fun h3=>⟨h3,by omega⟩,fun h3=>⟨h3,by omega⟩,fun h3=>⟨h3,by omega⟩,
     fun h3=>⟨h3,(e6 h3).1,by rw[e4];exact(e6 h3).2.1⟩,fun h3=>?_,fun h3=>?_⟩
    ·rw[au.FY ha hfl hgl hhl (by rw[hasf];exact h3) hd hc hb];rfl
    ·exact⟨h+1,⟨by omega,nW hd (by rw[hasf];exact h3)⟩,by omega,by rw[aL hhl hml]⟩
   ·have:h=c.fr.length:=by omega
    subst this;exact⟨g+1,⟨by omega,fun g' h' hg' hh'=>nW (P:=fun g'=>c.eu f g' h'=false) (fun j hj=>hc j h' hj hh') (hd h' hh') g' hg'⟩,by omega,by rw[aL hgl hml]⟩
  ·refine⟨f+1,⟨by omega,fun f' g' h' hf' hg' hh'=>nW (P:=fun f'=>c.eu f' g' h'=false) (fun j hj=>hb j g' h' hj hg' hh') (hc g' h' (by omega) hh') f' hf'⟩,by omega,by rw[aL hfl hml]⟩
 ·have:f=c.fr.length:=by omega
  subst this;rw[au.F3 ha hb];rfl
def Dk:List Nat:=[0,2,1,3]
def LM:Sl:=ah Tryz.types Tryz.f103 Dk []
theorem Vc:aC Tryz.prog Tryz.f103 Dk LM 1=true:=by decide +kernel
theorem YO(c:au):aw Tryz.prog 103 [.v c.d] (.bool c.kr):=by
 refine aK Tryz.func103 Vc ?_;unfold LM ah Dk;simp only[go_sem];refine an (YE c) rfl (.inl rfl) ?_;simp only[go_sem];refine⟨fun h=>?_,fun h=>?_⟩
 ·unfold au.kr;rw[Bool.not_eq_true'] at h;rw[h];rfl
 rw[Bool.not_eq_false'] at h;refine an (YN c (au.wP.1 h)) rfl (.inl rfl) ?_;simp only[fd];simp only[go_sem];unfold au.kr;rw[h];rfl
def Dl:List Nat:=[0,2,1]
def LN:Sl:=ah Tryz.types Tryz.f104 Dl []
theorem Vd:aC Tryz.prog Tryz.f104 Dl LN 1=true:=by decide +kernel
theorem YP(a:au)(hs:au.cost a<=1048576):aw Tryz.prog 104 [.v (au.d a)] (au.d a):=by
 unfold au.cost at hs;refine aK Tryz.func104 Vd ?_;unfold LN ah Dl;simp only[go_sem];refine an (jf a.fr (by omega)) rfl (.inl (bT _)) ?_;simp only[go_sem];refine an (jf a.to (by omega)) rfl (.inl (bT _)) ?_;simp only[go_sem];refine an (jf a.aU (by omega)) rfl (.inl (bT _)) ?_;simp only[go_sem];refine an (JO a.co (by omega)) rfl (.inl (mz _)) ?_;simp only[go_sem]
 all_goals rfl
def jF(l:List Int)(x:Int):Int:=if l.findIdx (·== x)<l.length then((l.findIdx (·== x):Nat):Int) else -1
def C9:List Nat:=[0,1,4,5]
def Ly:Sl:=ah Tryz.types Tryz.f197 C9 []
theorem U1:aC Tryz.prog Tryz.f197 C9 Ly 2=true:=by decide +kernel
theorem YK(l:List Int)(x:Int)(hl:l.length<=1048576):aw Tryz.prog 197 [.v (ints l),.v (.int .i64 x)] (.int .i64 (jF l x)):=by
 refine aK Tryz.func197 U1 ?_;unfold Ly ah C9;simp only[go_sem];refine aE [] (fun i:Nat=>[(3,.int .i64 i)]) (fun i=>i<=l.findIdx (·== x)) (fun i=>l.length-i) 0 (by simp only[go_sem];rfl) (Nat.zero_le _) rfl ?_;intro i hi;have hfl:=List.findIdx_le_length (p:=(·== x)) (xs:=l);simp only[go_sem];refine⟨fun h1=>⟨h1,fun h2=>?_,fun h2=>⟨i+1,?_,by omega,by rw[aL h1 (by simp only[maxLen];omega)]⟩⟩,fun h1=>?_⟩
 ·have:l.findIdx (·== x)<=i:=by
   apply Nat.le_of_not_lt;intro hh;have:=List.not_of_lt_findIdx hh;rw[<-aN (d:=0) h1,h2] at this;simp at this
  have e:l.findIdx (·== x)=i:=by omega
  unfold jF;rw[e,if_pos h1]
 ·by_cases hlt:i<l.findIdx (·== x)
  ·omega
  ·have e:l.findIdx (·== x)=i:=by omega
   have:=List.findIdx_getElem (w:=show l.findIdx (·== x)<l.length by omega);simp only[e] at this;rw[<-aN (d:=0) h1,h2] at this;cases this
 ·unfold jF
  rw[if_neg (by omega)]
def lexB:List Int->List Int->Bool
 | [],[]=>false
 | [],_::_=>true
 | _::_,[]=>false
 | a::l,b::r=>if a=b then lexB l r else decide (a<b)
theorem Q3{a b:List Int}{i:Nat}(ha:i<a.length)(hb:i<b.length)(h:a.getD i 0=b.getD i 0):lexB (a.drop i) (b.drop i)=lexB (a.drop (i+1)) (b.drop (i+1)):=by
 rw[aN ha,aN hb] at h;rw[List.drop_eq_getElem_cons ha,List.drop_eq_getElem_cons hb];simp only[lexB,h,if_true]
def Db:List Nat:=[0,1,4,5]
def LA:Sl:=ah Tryz.types Tryz.f161 Db []
theorem U3:aC Tryz.prog Tryz.f161 Db LA 2=true:=by decide +kernel
theorem YM(a b:List Int)(hl:a.length<=1048576):aw Tryz.prog 161 [.v (ints a),.v (ints b)] (.bool (lexB a b)):=by
 refine aK Tryz.func161 U3 ?_;unfold LA ah Db;simp only[go_sem];refine aE [] (fun i:Nat=>[(3,.int .i64 i)]) (fun i=>i<=a.length/\i<=b.length/\lexB a b=lexB (a.drop i) (b.drop i)) (fun i=>a.length-i) 0 (by simp only[go_sem];rfl) ⟨Nat.zero_le _,Nat.zero_le _,rfl⟩ rfl ?_;rintro i ⟨hi,hi2,hs⟩;simp only[go_sem];refine⟨fun h=>?_,fun h=>?_⟩
 ·simp only[Bool.and_eq_true,decide_eq_true_eq] at h
  refine⟨h.1,h.2,fun h2=>⟨h.1,h.2,?_⟩,fun h2=>⟨i+1,⟨h.1,h.2,?_⟩,by omega,by rw[aL h.1 (by simp only[maxLen];omega)]⟩⟩
  ·have h3:a.getD i 0≠b.getD i 0:=by simpa using h2
   rw[hs,List.drop_eq_getElem_cons h.1,List.drop_eq_getElem_cons h.2];rw[aN h.1,aN h.2] at h3|-
   simp only[lexB,if_neg h3]
  ·have h3:a.getD i 0=b.getD i 0:=by simpa using h2
   rw[hs,Q3 h.1 h.2 h3]
 ·rw[hs]
  by_cases h1:i<a.length
  ·have h2:¬i<b.length:=by simp only[h1,decide_true,Bool.true_and,decide_eq_false_iff_not] at h;exact h
   rw[List.drop_eq_getElem_cons h1,List.drop_eq_nil_of_le (show b.length<=i by omega)];simp only[lexB,decide_eq_false_iff_not];omega
  ·rw[List.drop_eq_nil_of_le (show a.length<=i by omega)]
   by_cases h2:i<b.length
   ·rw[List.drop_eq_getElem_cons h2];simp only[lexB,decide_eq_true_eq];omega
   ·rw[List.drop_eq_nil_of_le (show b.length<=i by omega)];simp only[lexB,decide_eq_false_iff_not];omega
def Df:List Nat:=[0,1,4,5]
def LF:Sl:=ah Tryz.types Tryz.f83 Df []
theorem U7:aC Tryz.prog Tryz.f83 Df LF 2=true:=by decide +kernel
theorem AR(a b:List Int)(hl:a.length<=1048576):aw Tryz.prog 83 [.v (ints a),.v (ints b)] (.bool (a == b)):=by
 refine aK Tryz.func83 U7 ?_;unfold LF ah Df;simp only[go_sem];refine⟨fun h=>?_,fun h=>?_⟩
 ·have:a≠b:=fun e=>by subst e;simp at h
  simpa using this
 have hab:a.length=b.length:=by simp at h;omega
 refine aE [] (fun i:Nat=>[(3,.int .i64 i)]) (fun i=>i<=a.length/\∀j,j<i->a.getD j 0=b.getD j 0) (fun i=>a.length-i) 0 (by simp only[go_sem];rfl) ⟨Nat.zero_le _,fun j hj=>by omega⟩ rfl ?_;rintro i ⟨hi,hs⟩;simp only[go_sem];refine⟨fun h1=>⟨h1,by omega,fun h2=>?_,fun h2=>⟨i+1,⟨by omega,fun j hj=>?_⟩,by omega,by rw[aL h1 (by simp only[maxLen];omega)]⟩⟩,fun h1=>?_⟩
 ·have:a≠b:=fun e=>by subst e;simp at h2
  simpa using this
 ·by_cases hji:j=i
  ·subst hji;simpa using h2
  ·exact hs j (by omega)
 ·have:a=b:=by
   apply List.ext_getElem hab;intro j h3 h4;have:=hs j (by omega)
   rwa [aN h3,aN h4] at this
  simpa using this
end Go.D3
namespace Go.D3
open Go
def dN(l:List Int)(a b:Int):List Int:=l.map fun x=>if x=b then a else x
def cF(l:List Int)(P:List (List Int)):List Int:=P.foldl (fun l p=>dN l (l.getD (p.getD 0 0).toNat 0) (l.getD (p.getD 1 0).toNat 0)) l
theorem Qv{l:List Int}{P:List (List Int)}{p:List Int}:cF l (P++[p])=dN (cF l P) ((cF l P).getD (p.getD 0 0).toNat 0) ((cF l P).getD (p.getD 1 0).toNat 0):=by
 unfold cF;rw[List.foldl_append];rfl
theorem iB{l:List Int}{a b:Int}:(dN l a b).length=l.length:=List.length_map _
theorem sQ{l:List Int}{P:List (List Int)}:(cF l P).length=l.length:=by
 induction P generalizing l with
 | nil=>rfl
 | cons p P ih=>show(cF _ P).length=_;rw[ih,iB]
theorem rD{l:List Int}{a b:Int}{i:Nat}(h:i<l.length):(dN l a b).getD i 0=if l.getD i 0=b then a else l.getD i 0:=by
 rw[aN (by rw[iB];exact h),aN h];unfold dN;rw[List.getElem_map]
theorem W0{l:List Int}{a b:Int}{i j:Nat}(hi:i<l.length)(hj:j<l.length)(h:l.getD i 0=l.getD j 0):(dN l a b).getD i 0=(dN l a b).getD j 0:=by
 rw[rD hi,rD hj,h]
theorem Qt{P:List (List Int)}:∀{l:List Int}{i j:Nat},i<l.length->j<l.length->l.getD i 0=l.getD j 0->(cF l P).getD i 0=(cF l P).getD j 0:=by
 induction P with
 | nil=>exact fun _ _ h=>h
 | cons p P ih =>
  intro l i j hi hj h;show(cF (dN _ _ _) P).getD i 0=(cF (dN _ _ _) P).getD j 0;exact ih (by rw[iB];exact hi) (by rw[iB];exact hj) (W0 hi hj h)
theorem Qu{P:List (List Int)}:∀{l:List Int}{p:List Int}{i j:Nat},p∈P->p.getD 0 0=i->p.getD 1 0=j->i<l.length->j<l.length->(cF l P).getD i 0=(cF l P).getD j 0:=by
 induction P with
 | nil=>intro l p i j h;cases h
 | cons q P ih =>
  intro l p i j hp h0 h1 hi hj;show(cF (dN _ _ _) P).getD i 0=(cF (dN _ _ _) P).getD j 0;rcases List.mem_cons.1 hp with rfl | hp
  ·refine Qt (by rw[iB];exact hi) (by rw[iB];exact hj) ?_
   rw[rD hi,rD hj,h0,h1,Int.toNat_natCast,Int.toNat_natCast,if_pos rfl];split<;>rfl
  ·exact ih hp h0 h1 (by rw[iB];exact hi) (by rw[iB];exact hj)
theorem HQ:∀{A B:List Int},A.Nodup->(∀x∈A,x∈B)->A.length<=B.length
 | [],_,_,_=>Nat.zero_le _
 | x::A,B,h,hs=>by
  rw[List.nodup_cons] at h;have hx:=hs x List.mem_cons_self;have:=HQ (A:=A) (B:=B.erase x) h.2 fun y hy=>(List.mem_erase_of_ne (show y≠x from fun e=>h.1 (by rw[<-e];exact hy))).2 (hs y (List.mem_cons_of_mem _ hy))
  rw[List.length_erase_of_mem hx] at this;have:=List.length_pos_of_mem hx;rw[List.length_cons];omega
end Go.D3
namespace Go.D3
open Go
theorem W1{n:Nat}{β:Type}{φ:Nat->β}{l:List Int}{a b:Nat}(hl:l.length=n)(h:∀i,i<n->∃m:Nat,m<n/\l.getD i 0=m/\φ m=φ i)(ha:a<n)(hb:b<n)(hab:φ a=φ b) :
  ∀i,i<n->∃m:Nat,m<n/\(dN l (l.getD a 0) (l.getD b 0)).getD i 0=m/\φ m=φ i:=fun i hi=>by
 rw[rD (by omega)];obtain⟨m,m1,m2,m3⟩:=h i hi;obtain⟨x,x1,x2,x3⟩:=h a ha;obtain⟨y,y1,y2,y3⟩:=h b hb;split
 ·rename_i e
  refine⟨x,x1,x2,?_⟩;have:m=y:=by omega
  rw[x3,hab,<-y3,<-this,m3]
 ·exact⟨m,m1,m2,m3⟩
theorem y7{n:Nat}{β:Type}{φ:Nat->β}:∀{P:List (List Int)}{l:List Int},l.length=n->(∀i,i<n->∃m:Nat,m<n/\l.getD i 0=m/\φ m=φ i) ->
  (∀p∈P,∃a b:Nat,a<n/\b<n/\p.getD 0 0=a/\p.getD 1 0=b/\φ a=φ b)->∀i,i<n->∃m:Nat,m<n/\(cF l P).getD i 0=m/\φ m=φ i
 | [],l,hl,h,_=>h
 | p::P,l,hl,h,hP=>by
  obtain⟨a,b,ha,hb,h0,h1,hab⟩:=hP p List.mem_cons_self;show ∀i,i<n->∃m:Nat,m<n/\(cF (dN l _ _) P).getD i 0=m/\φ m=φ i;rw[h0,h1,Int.toNat_natCast,Int.toNat_natCast];exact y7 (by rw[iB,hl]) (W1 hl h ha hb hab) fun q hq=>hP q (List.mem_cons_of_mem _ hq)
structure gz(L:List Int)(i:Nat)(seen out:List Int):Prop where
 nd:seen.Nodup
 len:out.length=i
 o:∀j,j<i->∃k:Nat,k<seen.length/\out.getD j 0=k/\seen.getD k 0=L.getD j 0
 s:∀k:Nat,k<seen.length->∃j,j<i/\out.getD j 0=k
 f:∀j (m:Nat),j<i->(∀q,q<j->out.getD q 0<m)->out.getD j 0<=m
theorem gL{α:Type}{l:List α}{x d:α}{j:Nat}(h:j<=l.length):(l++[x]).getD j d=if j=l.length then x else l.getD j d:=by
 rw[List.getD_eq_getElem?_getD,List.getD_eq_getElem?_getD];by_cases e:j=l.length
 ·rw[if_pos e,List.getElem?_append_right (by omega),show j-l.length=0 by omega];rfl
 ·rw[if_neg e,List.getElem?_append_left (by omega)]
theorem gz.zero{L:List Int}:gz L 0 [] []:=⟨List.nodup_nil,rfl,fun _ hj=>absurd hj (Nat.not_lt_zero _),fun _ hk=>absurd hk (Nat.not_lt_zero _),fun _ _ hj=>absurd hj (Nat.not_lt_zero _)⟩
theorem gz.le{L:List Int}{i:Nat}{seen out:List Int}(h:gz L i seen out){m:Nat}(hm:∀q,q<i->out.getD q 0<m):seen.length<=m:=by
 cases hl:seen.length with
 | zero=>omega
 | succ k =>
  obtain⟨j,h1,h2⟩:=h.s k (by omega);have:=hm j h1;omega
theorem gz.old{L:List Int}{i:Nat}{seen out:List Int}(h:gz L i seen out){k:Nat}(hk:k<seen.length)(hx:seen.getD k 0=L.getD i 0):gz L (i+1) seen (out++[(k:Int)]):=by
 have hl:=h.len;have hlt:∀{j},j<i->(out++[(k:Int)]).getD j 0=out.getD j 0:=fun hj=>by rw[gL (by omega),if_neg (by omega)]
 have he:(out++[(k:Int)]).getD i 0=k:=by rw[gL (by omega),if_pos hl.symm]
 refine⟨h.nd,by rw[List.length_append,hl];rfl,fun j hj=>?_,fun k' hk'=>?_,fun j m hj hm=>?_⟩
 ·by_cases hji:j<i
  ·rw[hlt hji];exact h.o j hji
  ·rw[show j=i by omega,he];exact⟨k,hk,rfl,hx⟩
 ·obtain⟨j,h1,h2⟩:=h.s k' hk'
  exact⟨j,by omega,by rw[hlt h1,h2]⟩
 ·by_cases hji:j<i
  ·rw[hlt hji]
   exact h.f j m hji fun q hq=>by have:=hm q hq;rwa [hlt (by omega)] at this
  ·obtain rfl:j=i:=by omega
   rw[he];have:=h.le (m:=m) fun q hq=>by have:=hm q hq;rwa [hlt hq] at this
   omega
theorem gz.new{L:List Int}{i:Nat}{seen out:List Int}(h:gz L i seen out)(hx:L.getD i 0 ∉ seen):gz L (i+1) (seen++[L.getD i 0]) (out++[(seen.length:Int)]):=by
 have hl:=h.len;have hlt:∀{j},j<i->(out++[(seen.length:Int)]).getD j 0=out.getD j 0:=fun hj=>by rw[gL (by omega),if_neg (by omega)]
 have he:(out++[(seen.length:Int)]).getD i 0=seen.length:=by rw[gL (by omega),if_pos hl.symm]
 refine⟨?_,by rw[List.length_append,hl];rfl,fun j hj=>?_,fun k' hk'=>?_,fun j m hj hm=>?_⟩
 ·rw[List.nodup_append]
  refine⟨h.nd,by simp,fun a ha b hb=>?_⟩;rw[List.mem_singleton] at hb;rintro rfl;exact hx (hb▸ha)
 ·by_cases hji:j<i
  ·rw[hlt hji]
   obtain⟨k,k1,k2,k3⟩:=h.o j hji;exact⟨k,by rw[List.length_append];omega,k2,by rw[gL (by omega),if_neg (by omega),k3]⟩
  ·rw[show j=i by omega,he]
   exact⟨seen.length,by rw[List.length_append];exact Nat.lt_succ_self _,rfl,by rw[gL (Nat.le_refl _),if_pos rfl]⟩
 ·rw[List.length_append,List.length_singleton] at hk'
  by_cases hk:k'<seen.length
  ·obtain⟨j,h1,h2⟩:=h.s k' hk
   exact⟨j,by omega,by rw[hlt h1,h2]⟩
  ·exact⟨i,by omega,by rw[he];omega⟩
 ·by_cases hji:j<i
  ·rw[hlt hji]
   exact h.f j m hji fun q hq=>by have:=hm q hq;rwa [hlt (by omega)] at this
  ·obtain rfl:j=i:=by omega
   rw[he];have:=h.le (m:=m) fun q hq=>by have:=hm q hq;rwa [hlt hq] at this
   omega
def j5(p:List Int×List Int)(x:Int):List Int×List Int:=if jF p.1 x<0 then(p.1++[x],p.2++[(p.1.length:Int)]) else(p.1,p.2++[jF p.1 x])
def eL(l:List Int):List Int×List Int:=l.foldl j5 ([],[])
theorem yb{l:List Int}{x:Int}:eL (l++[x])=j5 (eL l) x:=by unfold eL;rw[List.foldl_append];rfl
def eK(l:List Int):List Int:=(eL l).2
theorem P5{l:List Int}{x:Int}(h:¬jF l x<0):∃k:Nat,jF l x=k/\k<l.length/\l.getD k 0=x:=by
 unfold jF at h|-
 by_cases hl:l.findIdx (·== x)<l.length
 ·refine⟨l.findIdx (·== x),by rw[if_pos hl],hl,?_⟩
  have:=List.findIdx_getElem (w:=hl);rw[aN hl];simpa using this
 ·rw[if_neg hl] at h;omega
theorem P4{l:List Int}{x:Int}(h:jF l x<0):x ∉ l:=fun hm=>by
 unfold jF at h;rw[if_pos (List.findIdx_lt_length_of_exists ⟨x,hm,by simp⟩)] at h;omega
theorem oV{L:List Int}:∀i,i<=L.length->gz L i (eL (L.take i)).1 (eL (L.take i)).2
 | 0,_=>gz.zero
 | i+1,h=>by
  have ih:=oV (L:=L) i (by omega);rw[bN (show i<L.length by omega) 0,yb];unfold j5;split
  ·rename_i hx;exact ih.new (P4 hx)
  ·rename_i hx
   obtain⟨k,h1,h2,h3⟩:=P5 hx;rw[h1];exact ih.old h2 h3
structure ng(L out:List Int):Prop where
 len:out.length=L.length
 ge:∀i,i<L.length->0<=out.getD i 0/\out.getD i 0<L.length
 f:∀i (m:Nat),i<L.length->(∀q,q<i->out.getD q 0<m)->out.getD i 0<=m
 eq:∀i j,i<L.length->j<L.length->(out.getD i 0=out.getD j 0↔L.getD i 0=L.getD j 0)
theorem HP{l:List Int}(h:l.Nodup){a b:Nat}(ha:a<l.length)(hb:b<l.length)(e:l.getD a 0=l.getD b 0):a=b:=by
 rw[aN ha,aN hb] at e;exact(List.getElem_inj h).1 e
theorem gz.sle{L:List Int}{i:Nat}{seen out:List Int}(h:gz L i seen out)(hi:i<=L.length):seen.length<=i:=by
 have:seen.length<=(L.take i).length:=HQ h.nd fun x hx=>by
  obtain⟨k,hk,rfl⟩:=List.getElem_of_mem hx;obtain⟨j,h3,h4⟩:=h.s k hk;obtain⟨k',h5,h6,h7⟩:=h.o j h3;rw[<-aN (d:=0) hk,show k=k' by omega,h7,aN (show j<L.length by omega)];exact List.mem_take_iff_getElem.2 ⟨j,by omega,rfl⟩
 rw[List.length_take] at this;omega
theorem gz.done{L seen out:List Int}(h:gz L L.length seen out):ng L out:=by
 refine⟨h.len,fun i hi=>?_,h.f,fun i j hi hj=>?_⟩
 ·obtain⟨k,h1,h2,_⟩:=h.o i hi
  refine⟨by omega,?_⟩;have:=h.sle (Nat.le_refl _);omega
 ·obtain⟨a,a1,a2,a3⟩:=h.o i hi
  obtain⟨b,b1,b2,b3⟩:=h.o j hj;rw[a2,b2,<-a3,<-b3];exact⟨fun e=>by rw[show a=b by omega],fun e=>by rw[HP h.nd a1 b1 e]⟩
theorem ya{L:List Int}:ng L (eK L):=by
 have:=oV (L:=L) L.length (Nat.le_refl _);rw[List.take_length] at this;exact this.done
theorem H4{n:Nat}{β:Type}{φ:Nat->β}(i:Nat)(hi:i<n):∃m:Nat,m<n/\(((List.range n).map fun j:Nat=>(j:Int))).getD i 0=m/\φ m=φ i :=
 ⟨i,hi,by rw[List.getD_eq_getElem?_getD,List.getElem?_map,List.getElem?_range hi];rfl,rfl⟩
def bB(n:Nat):List Int:=(List.range n).map fun j:Nat=>(j:Int)
theorem eE{n:Nat}:(bB n).length=n:=by simp[bB]
theorem ng.same{n:Nat}{P:List (List Int)}{out:List Int}(h:ng (cF (bB n) P) out){β:Type}(φ:Nat->β)(hP:∀p∈P,∃a b:Nat,a<n/\b<n/\p.getD 0 0=a/\p.getD 1 0=b/\φ a=φ b)
  {i j:Nat} (hi:i<n) (hj:j<n) (e:out.getD i 0=out.getD j 0):φ i=φ j:=by
 have hl:(cF (bB n) P).length=n:=by rw[sQ,eE]
 rw[h.eq i j (by omega) (by omega)] at e;obtain⟨a,_,a1,a2⟩:=y7 (φ:=φ) eE H4 hP i hi;obtain⟨b,_,b1,b2⟩:=y7 (φ:=φ) eE H4 hP j hj;rw[<-a2,<-b2,show a=b by omega]
end Go.D3
namespace Go.D3
open Go
set_option maxRecDepth 100000
def fM(mp:List (List Int))(l:List Int):List (List Int):=l.foldl (fun m (e:Int)=>m.set e.toNat (m.getD e.toNat []++[-1])) mp
theorem xr{mp:List (List Int)}{l:List Int}{e:Int}:fM mp (l++[e])=(fM mp l).set e.toNat ((fM mp l).getD e.toNat []++[-1]):=by
 unfold fM;rw[List.foldl_append];rfl
theorem ql{mp:List (List Int)}:∀{l:List Int},(fM mp l).length=mp.length:=by
 intro l;induction l generalizing mp with
 | nil=>rfl
 | cons e l ih=>show(fM _ l).length=_;rw[ih,List.length_set]
theorem nL{α:Type}{l:List α}{i j:Nat}{x d:α}(h:i<l.length):(l.set i x).getD j d=if j=i then x else l.getD j d:=by
 rw[List.getD_eq_getElem?_getD,List.getElem?_set];by_cases hij:i=j
 ·subst hij;rw[if_pos rfl,if_pos h,if_pos rfl];rfl
 ·rw[if_neg hij,if_neg (Ne.symm hij),List.getD_eq_getElem?_getD]
theorem uF{mp:List (List Int)}{fr:List Int}{x:Int}:∀{n:Nat},n<=mp.length->∀e:Nat,(fM mp (eN fr x n)).getD e []=if e<n/\fr.getD e 0=x then mp.getD e []++[-1] else mp.getD e []
 | 0,_,e=>by rw[if_neg (by omega)];rfl
 | n+1,hn,e=>by
  have ih:=fun e=>uF (mp:=mp) (fr:=fr) (x:=x) (n:=n) (by omega) e
  rw[tj];by_cases h:fr.getD n 0=x
  ·rw[if_pos h,xr,Int.toNat_natCast,nL (by rw[ql];omega),ih n,ih e,if_neg (show ¬(n<n/\fr.getD n 0=x) from fun hh=>Nat.lt_irrefl _ hh.1)]
   by_cases he:e=n
   ·subst he;rw[if_pos rfl,if_pos ⟨by omega,h⟩]
   ·rw[if_neg he]
    by_cases hc:e<n/\fr.getD e 0=x
    ·rw[if_pos hc,if_pos ⟨by omega,hc.2⟩]
    ·rw[if_neg hc,if_neg (fun hh=>hc ⟨by omega,hh.2⟩)]
  ·rw[if_neg h,List.append_nil,ih e]
   by_cases hc:e<n/\fr.getD e 0=x
   ·rw[if_pos hc,if_pos ⟨by omega,hc.2⟩]
   ·rw[if_neg hc,if_neg]
    rintro⟨h1,h2⟩;by_cases he:e=n
    ·subst he;exact h h2
    ·exact hc ⟨by omega,h2⟩
structure dH(s:aa)(d:ak):Prop where
 nd:(d.sz.length:Int)=s.nd
 mp:d.mp.length=s.fr.length
 gM:∀i,i<d.sz.length->0<=d.sz.getD i 0/\d.sz.getD i 0<=16
 len:∀e,e<d.mp.length->((d.mp.getD e []).length:Int)=d.sz.getD (s.fr.getD e 0).toNat 0
 val:∀e i,e<d.mp.length->i<(d.mp.getD e []).length->-1<=(d.mp.getD e []).getD i 0/\(d.mp.getD e []).getD i 0<d.sz.getD (s.to.getD e 0).toNat 0
def ak.can(s:aa)(d:ak)(c:az):Bool :=
 c.okB&&(if c.kd=1 then aR c.fi 0 (s.nd-1)&&!(d.sz.getD c.fi.toNat 0 == 16)
  else aR c.fi 0 ((s.fr.length:Int)-1)&&aR c.se 0 (d.sz.getD (s.fr.getD c.fi.toNat 0).toNat 0-1)&&aR c.th 0 (d.sz.getD (s.to.getD c.fi.toNat 0).toNat 0-1))
def ak.app(s:aa)(d:ak)(c:az):ak :=
 if c.kd=1 then⟨d.sz.set c.fi.toNat (d.sz.getD c.fi.toNat 0+1),fM d.mp (eN s.fr c.fi s.fr.length)⟩
 else⟨d.sz,d.mp.set c.fi.toNat ((d.mp.getD c.fi.toNat []).set c.se.toNat c.th)⟩
structure di(s:aa):Prop where
 n0 : 0<=s.nd
 n8:s.nd<=8
 f8:s.fr.length<=8
 to:s.to.length=s.fr.length
 fr:bQ s.nd s.fr=true
 wZ:bQ s.nd s.to=true
theorem gw{s:aa}(h:s.gm=true):di s:=by
 simp only[aa.gm,Bool.and_eq_true,decide_eq_true_eq] at h;obtain⟨h1,h2,hto,hf,ht⟩:=h;have hn : 0<=s.nd/\s.nd<=8:=by unfold aR at h1;simpa using h1
 exact⟨hn.1,hn.2,h2,hto,hf,ht⟩
theorem dH.app{s:aa}{d:ak}{c:az}(hs:di s)(h:dH s d)(hc:d.can s c=true):dH s (d.app s c):=by
 unfold ak.can at hc;rw[Bool.and_eq_true] at hc;unfold ak.app;by_cases hk:c.kd=1
 ·rw[if_pos hk]
  rw[if_pos hk] at hc;simp only[Bool.and_eq_true,aR,decide_eq_true_eq,Bool.not_eq_true',beq_eq_false_iff_ne] at hc;obtain⟨_,⟨h0,h1⟩,h16⟩:=hc;have hnd:=h.nd;have hlt:c.fi.toNat<d.sz.length:=by omega
  have hmf:=h.mp;have hget:∀j,(d.sz.set c.fi.toNat (d.sz.getD c.fi.toNat 0+1)).getD j 0=if j=c.fi.toNat then d.sz.getD c.fi.toNat 0+1 else d.sz.getD j 0:=fun j=>nL hlt
  have hmp:∀e,(fM d.mp (eN s.fr c.fi s.fr.length)).getD e []=if e<s.fr.length/\s.fr.getD e 0=c.fi then d.mp.getD e []++[-1] else d.mp.getD e []:=uF (by omega)
  have h16':=h.gM _ hlt;refine⟨by simpa using hnd,by rw[ql];exact hmf,fun i hi=>?_,fun e he=>?_,fun e i he hi=>?_⟩
  ·simp only[List.length_set] at hi
   simp only[hget];split
   ·omega
   ·exact h.gM i hi
  ·simp only[ql] at he
   simp only[hget,hmp];have hfe:=eM hs.fr (show e<s.fr.length by omega);have hle:=h.len e he;by_cases hx:s.fr.getD e 0=c.fi
   ·rw[if_pos ⟨by omega,hx⟩,hx,if_pos rfl,List.length_append,<-hx]
    simp only[List.length_cons,List.length_nil];omega
   ·rw[if_neg (fun hh=>hx hh.2),if_neg (fun hh=>hx (by omega))]
    exact hle
  ·simp only[ql] at he
   simp only[hget];simp only[hmp] at hi|-
   have hte:=eM hs.wZ (show e<s.to.length by rw[hs.to];omega)
   have up:∀v:Int,v<d.sz.getD (s.to.getD e 0).toNat 0->v<if(s.to.getD e 0).toNat=c.fi.toNat then d.sz.getD c.fi.toNat 0+1 else d.sz.getD (s.to.getD e 0).toNat 0:=by
    intro v hv;split
    ·rename_i hh;rw[hh] at hv;omega
    ·exact hv
   have hpos : -1<d.sz.getD (s.to.getD e 0).toNat 0:=by have:=(h.gM (s.to.getD e 0).toNat (by omega)).1;omega
   by_cases hx:e<s.fr.length/\s.fr.getD e 0=c.fi
   ·rw[if_pos hx] at hi|-
    rw[List.getD_eq_getElem?_getD,List.getElem?_append];by_cases hi2:i<(d.mp.getD e []).length
    ·rw[if_pos hi2,<-List.getD_eq_getElem?_getD]
     have:=h.val e i he hi2;exact⟨this.1,up _ this.2⟩
    ·rw[if_neg hi2]
     have:i-(d.mp.getD e []).length=0:=by rw[List.length_append,List.length_cons,List.length_nil] at hi;omega
     rw[this];exact⟨by simp,up _ (by simpa using hpos)⟩
   ·rw[if_neg hx] at hi|-
    have:=h.val e i he hi;exact⟨this.1,up _ this.2⟩
 ·rw[if_neg hk]
  rw[if_neg hk] at hc;simp only[Bool.and_eq_true,aR,decide_eq_true_eq] at hc;obtain⟨_,⟨⟨h0,h1⟩,h2,h3⟩,h4,h5⟩:=hc;have hmf:=h.mp;have hlt:c.fi.toNat<d.mp.length:=by omega
  have hget:∀e,(d.mp.set c.fi.toNat ((d.mp.getD c.fi.toNat []).set c.se.toNat c.th)).getD e []=if e=c.fi.toNat then(d.mp.getD c.fi.toNat []).set c.se.toNat c.th else d.mp.getD e []:=fun e=>nL hlt
  have hl:=h.len _ hlt;refine⟨h.nd,by simpa using hmf,h.gM,fun e he=>?_,fun e i he hi=>?_⟩
  ·simp only[List.length_set] at he
   simp only[hget];split
   ·rename_i hh;rw[List.length_set,hh];exact hl
   ·exact h.len e he
  ·simp only[List.length_set] at he
   simp only[hget] at hi|-
   split at hi
   ·rename_i hh
    rw[if_pos hh,nL (by omega)];subst hh;split
    ·omega
    ·exact h.val _ i he (by simpa using hi)
   ·rename_i hh
    rw[if_neg hh];exact h.val e i he hi
end Go.D3
namespace Go.D3
open Go Proofs
set_option maxHeartbeats 4000000
set_option maxRecDepth 100000
def ak.bx(d:ak):D:=.box [.o (ints d.sz),.o (aF d.mp)]
theorem rV{n:Int}(h0 : -4611686018427387900<=n)(h1:n<=4611686018427387900):IntKind.i64.wrap (n-1)=n-1:=wrap_small (by omega) (by omega)
theorem Ea:∀{l:List Int}{mp:List (List Int)}{b:Nat},(∀e,(mp.getD e []).length<=b)->∀e,((fM mp l).getD e []).length<=b+l.length
 | [],mp,b,h,e=>h e
 | x::l,mp,b,h,e=>by
  have:=Ea (l:=l) (mp:=mp.set x.toNat (mp.getD x.toNat []++[-1])) (b:=b+1) (fun e=>by
   by_cases hx:x.toNat<mp.length
   ·rw[nL hx]
    split
    ·rw[List.length_append];have:=h x.toNat;show _+1<=_;omega
    ·have:=h e;omega
   ·rw[List.set_eq_of_length_le (by omega)];have:=h e;omega) e
  show((fM _ l).getD e []).length<=_;simp only[List.length_cons];omega
theorem V0{fr:List Int}{x:Int}{n j:Nat}(hj:j<(eN fr x n).length) : 0<=(eN fr x n).getD j 0/\(eN fr x n).getD j 0<n:=by
 have hm:(eN fr x n).getD j 0∈eN fr x n:=by rw[aN hj];exact List.getElem_mem _
 generalize(eN fr x n).getD j 0=v at hm;unfold eN at hm;obtain⟨e,he,h3⟩:=List.mem_map.1 hm;have:=List.mem_range.1 (List.mem_filter.1 he).1;omega
theorem dH.vI{s:aa}{d:ak}(hs:di s)(h:dH s d)(e:Nat):(d.mp.getD e []).length<=16:=by
 by_cases he:e<d.mp.length
 ·have h1:=h.len e he
  have h2:=eM hs.fr (show e<s.fr.length by rw[<-h.mp];exact he);have h3:=h.gM (s.fr.getD e 0).toNat (by have:=h.nd;omega);omega
 ·rw[List.getD_eq_getElem?_getD,List.getElem?_eq_none (by omega)];simp
def Cg:List Nat:=[0,1,2,6,5,8,48,49,50]
def KE:Sl:=ah Tryz.types Tryz.f170 Cg []
theorem T6:aC Tryz.prog Tryz.f170 Cg KE 3=true:=by decide +kernel
theorem XS(s:aa)(d:ak)(c:az)(hs:di s)(hd:dH s d) :
  fK Tryz.prog 170 [.av 0 [(0,0)],.ptr s.cells,az.d c] [d.bx] (.bool (d.can s c)) [(if d.can s c=true then d.app s c else d).bx]:=by
 have hnd:=hd.nd;have hmp:=hd.mp;have n0:=hs.n0;have n8:=hs.n8;have f8:=hs.f8;have hto:=hs.to;have hw1:IntKind.i64.wrap (s.nd-1)=s.nd-1:=rV (by omega) (by omega);have hw2:IntKind.i64.wrap ((s.fr.length:Int)-1)=(s.fr.length:Int)-1:=rV (by omega) (by omega);unfold ak.bx;refine rC .tree Tryz.func170 T6 ?_;unfold KE ah Cg;simp only[go_sem];refine an (XE c) rfl (.inl rfl) ?_;simp only[go_sem]
 have neg:d.can s c=false->false=d.can s c/\D.box [.o (ints d.sz),.o (aF d.mp)]=D.box [.o (ints (if d.can s c=true then d.app s c else d).sz),.o (aF (if d.can s c=true then d.app s c else d).mp)]:=fun h=>by
  rw[h];exact⟨rfl,rfl⟩
 refine⟨fun h=>neg (by unfold ak.can;rw[Bool.not_eq_true'] at h;rw[h];rfl),fun h=>⟨fun hk=>?_,fun hk=>?_⟩⟩
 ·rw[Bool.not_eq_false'] at h
  have hcan:d.can s c=(aR c.fi 0 (s.nd-1)&&!(d.sz.getD c.fi.toNat 0 == 16)):=by unfold ak.can;rw[h,if_pos hk,Bool.true_and]
  rw[hw1];refine an (lL _ _ _) rfl (.inl rfl) ?_;simp only[go_sem];have hin:aR c.fi 0 (s.nd-1)=true->0<=c.fi/\c.fi<d.sz.length:=by unfold aR;simp;omega
  refine⟨fun h2=>⟨h2,hin h2⟩,fun h2=>by simpa using h2,fun h2=>neg ?_,fun h2=>?_⟩
  ·rw[hcan]
   rw[Bool.or_eq_true,Bool.not_eq_true'] at h2;rw[Bool.and_eq_false_iff,Bool.not_eq_false'];exact h2
  ·have hc:d.can s c=true:=by
    rw[hcan];rw[Bool.or_eq_false_iff,Bool.not_eq_false'] at h2;rw[h2.1,h2.2];rfl
   rw[Bool.or_eq_false_iff,Bool.not_eq_false'] at h2;obtain⟨i0,i1⟩:=hin h2.1;have hsz:=hd.gM c.fi.toNat (by omega);refine⟨⟨i0,i1⟩,⟨i0,i1⟩,by omega,an (XK s c.fi f8) rfl (.inl (bT _)) ?_⟩;rw[hc,if_pos rfl];unfold ak.app;rw[if_pos hk,wrap_small (by omega) (by omega)];generalize hL:eN s.fr c.fi s.fr.length=L
   have hLr:∀j,j<L.length->0<=L.getD j 0/\L.getD j 0<d.mp.length:=by
    intro j hj;rw[<-hL] at hj|-
    have:=V0 hj;omega
   have hLl:L.length<=8:=by rw[<-hL];exact Nat.le_trans It f8
   simp only[go_sem];refine aE [5] (fun(j:Nat)=>[(8,.int .i64 j),(9,.box [.o (ints (d.sz.set c.fi.toNat (d.sz.getD c.fi.toNat 0+1))),.o (aF (fM d.mp (L.take j)))])]) (fun j=>j<=L.length) (fun j=>L.length-j) 0 (by simp only[go_sem];rfl) (Nat.zero_le _) rfl ?_;intro j hj;simp only[go_sem];refine⟨fun h3=>?_,fun h3=>by rw[List.take_of_length_le (by omega)]⟩;obtain⟨l0,l1⟩:=hLr j h3;have hal:(fM d.mp (L.take j)).length=d.mp.length:=ql
   have hbd:((fM d.mp (L.take j)).getD (L.getD j 0).toNat []).length<=16+j:=by
    have:=Ea (l:=L.take j) (mp:=d.mp) (b:=16) (hd.vI hs) (L.getD j 0).toNat;rw[List.length_take] at this;omega
   refine⟨h3,⟨l0,by omega⟩,by omega,⟨l0,by simp only[List.length_set,List.length_map];omega,?_⟩,by simp only[List.length_set,List.length_map];omega,j+1,h3,by omega,?_⟩
   ·rw[nL (by simp only[List.length_map];omega),if_pos rfl];rfl
   ·rw[Mr rfl,aL h3 (by simp only[maxLen];omega),bN h3 0,xr]
    unfold aF ae;rw[List.map_set];rfl
 ·rw[Bool.not_eq_false'] at h
  have hk':¬c.kd=1:=by simpa using hk
  rw[hw2];refine an (lL _ _ _) rfl (.inl rfl) ?_;simp only[go_sem];have hin:aR c.fi 0 ((s.fr.length:Int)-1)=true->0<=c.fi/\c.fi<s.fr.length:=by unfold aR;simp;omega
  have hcan:d.can s c=(aR c.fi 0 ((s.fr.length:Int)-1)&&aR c.se 0 (d.sz.getD (s.fr.getD c.fi.toNat 0).toNat 0-1)&&aR c.th 0 (d.sz.getD (s.to.getD c.fi.toNat 0).toNat 0-1)):=by
   unfold ak.can;rw[h,if_neg hk',Bool.true_and]
  have hf:aR c.fi 0 ((s.fr.length:Int)-1)=true->0<=s.fr.getD c.fi.toNat 0/\s.fr.getD c.fi.toNat 0<d.sz.length:=fun h2=>by
   have:=hin h2;have:=eM hs.fr (show c.fi.toNat<s.fr.length by omega);omega
  have ht:aR c.fi 0 ((s.fr.length:Int)-1)=true->0<=s.to.getD c.fi.toNat 0/\s.to.getD c.fi.toNat 0<d.sz.length:=fun h2=>by
   have:=hin h2;have:=eM hs.wZ (show c.fi.toNat<s.to.length by omega);omega
  have hszb:∀k,-1<=d.sz.getD k 0-1/\d.sz.getD k 0<=16:=fun k=>by
   by_cases hkk:k<d.sz.length
   ·have:=hd.gM k hkk;omega
   ·rw[List.getD_eq_getElem?_getD,List.getElem?_eq_none (by omega)];simp
  have hwr:∀k,IntKind.i64.wrap (d.sz.getD k 0-1)=d.sz.getD k 0-1:=fun k=>by have:=hszb k;exact rV (by omega) (by omega)
  rw[hwr];refine⟨fun h2=>⟨h2,hin h2⟩,fun h2=>⟨h2,hf h2⟩,bu (fun _=>lL _ _ _) rfl (fun h=>h) (.inl rfl) ?_⟩;simp only[go_sem];rw[hwr];refine⟨fun h2=>by simpa using h2,fun h2=>⟨h2,?_⟩,fun h2=>⟨h2,ht (by rw[Bool.and_eq_true] at h2;exact h2.1)⟩,bu (fun _=>lL _ _ _) rfl (fun h=>h) (.inl rfl) ?_⟩
  ·rw[Bool.and_eq_true] at h2
   have:=hin h2.1;omega
  simp only[go_sem];refine⟨(fun h=>by simp only[Bool.or_eq_false_iff,Bool.and_eq_true,Bool.not_eq_false'] at h|-;exact h),fun h2=>neg ?_,fun h2=>?_⟩
  ·rw[hcan]
   generalize aR c.fi 0 ((s.fr.length:Int)-1)=x1 at h2;generalize aR c.se 0 (d.sz.getD (s.fr.getD c.fi.toNat 0).toNat 0-1)=x2 at h2;generalize aR c.th 0 (d.sz.getD (s.to.getD c.fi.toNat 0).toNat 0-1)=x3 at h2;cases x1<;>cases x2<;>cases x3<;>first | rfl | cases h2
  ·have hc:d.can s c=true:=by
    rw[hcan];generalize aR c.fi 0 ((s.fr.length:Int)-1)=x1 at h2;generalize aR c.se 0 (d.sz.getD (s.fr.getD c.fi.toNat 0).toNat 0-1)=x2 at h2;generalize aR c.th 0 (d.sz.getD (s.to.getD c.fi.toNat 0).toNat 0-1)=x3 at h2;cases x1<;>cases x2<;>cases x3<;>first | rfl | cases h2
   have hc2:=hc;rw[hcan,Bool.and_eq_true,Bool.and_eq_true] at hc2;obtain⟨⟨c1,c2⟩,c3⟩:=hc2;have i1:=hin c1
   have i2 : 0<=c.se/\c.se<(d.mp.getD c.fi.toNat []).length:=by
    have:=hd.len c.fi.toNat (by omega);unfold aR at c2;simp only[Bool.and_eq_true,decide_eq_true_eq] at c2;omega
   rw[hc,if_pos rfl];unfold ak.app;rw[if_neg hk'];refine⟨⟨by omega,by omega⟩,i2,⟨by omega,by omega⟩,rfl,?_⟩
   have e1:(ae (D.int .i64) 0 (d.mp.getD c.fi.toNat [])).eG c.se.toNat 0 (D.int .i64 c.th)=ae (D.int .i64) 0 ((d.mp.getD c.fi.toNat []).set c.se.toNat c.th):=by
    unfold ae;rw[List.map_set];show D.slice _ (List.set _ _ (dQ _ 0 _))=_;congr 2;rw[List.getD_eq_getElem?_getD,List.getElem?_map];cases(d.mp.getD c.fi.toNat [])[c.se.toNat]?<;>rfl
   rw[e1];exact congrArg (fun x=>D.box [.o (ints d.sz),.o x]) (vG (f:=ints) (d:=[]) (l:=d.mp) (i:=c.fi.toNat) (x:=(d.mp.getD c.fi.toNat []).set c.se.toNat c.th))
end Go.D3
namespace Go.D3
open Go Proofs
set_option maxHeartbeats 4000000
set_option maxRecDepth 100000
theorem ow{s:aa}{sz:List Int}{mp:List (List Int)}(h:s.fV sz mp=true):(sz.length:Int)=s.nd/\bQ 17 sz=true/\mp.length=s.fr.length /\
  ∀e,e<mp.length->((mp.getD e []).length:Int)=sz.getD (s.fr.getD e 0).toNat 0/\bQ (sz.getD (s.to.getD e 0).toNat 0) (mp.getD e [])=true:=by
 unfold aa.fV at h;simp only[Bool.and_eq_true,beq_iff_eq,List.all_eq_true,List.mem_range] at h;obtain⟨⟨⟨h1,h2⟩,h3⟩,h4⟩:=h;exact⟨h1,h2,h3,fun e he=>by have:=h4 e he;unfold aa.lC at this;simpa using this⟩
theorem sS{s:aa}{sz:List Int}{mp:List (List Int)}(hr:s.fV sz mp=true):∀{l:List Int}{x r y:Int},bw s.fr s.to x l=some y->0<=r->r<sz.getD x.toNat 0->kB mp r l
 | [],_,_,_,_,_,_=>trivial
 | e::l,x,r,y,hf,h0,h1=>by
  obtain⟨_,_,hl,hm⟩:=ow hr;rw[bw] at hf;by_cases hc:(aR e 0 ((s.fr.length:Int)-1)&&s.fr.getD e.toNat 0 == x)=true
  ·rw[if_pos hc] at hf
   simp only[Bool.and_eq_true,beq_iff_eq,aR,decide_eq_true_eq] at hc;obtain⟨hlen,hmap⟩:=hm e.toNat (by omega);rw[hc.2] at hlen;have hv:=eM hmap (i:=r.toNat) (by omega);exact⟨by omega,⟨h0,by omega⟩,sS hr hf hv.1 hv.2⟩
  ·rw[if_neg hc] at hf;cases hf
theorem qM{s:aa}{p:U}{y:Int}(h:s.aO p=some y):(0<=p.st/\p.st<s.nd)/\p.ed.length<=6/\bw s.fr s.to p.st p.ed=some y:=by
 unfold aa.aO at h;split at h
 ·rename_i hc
  simp only[Bool.and_eq_true,aR,decide_eq_true_eq] at hc;exact⟨⟨hc.1.1,by omega⟩,hc.2,h⟩
 ·cases h
theorem ok_eq{s:aa}(h:s.ok=true){i:Nat}(hi:i<s.lf.length):∃y,s.aO (s.lf.getD i U.zero)=some y/\s.aO (s.rt.getD i U.zero)=some y/\(s.lf.getD i U.zero).st=(s.rt.getD i U.zero).st:=by
 unfold aa.ok at h;rw[Bool.and_eq_true] at h;have:=List.all_eq_true.1 h.2 i (List.mem_range.2 hi);unfold aa.sF at this;cases hp:s.aO (s.lf.getD i U.zero) with
 | none=>rw[hp] at this;cases this
 | some a =>
  cases hq:s.aO (s.rt.getD i U.zero) with
  | none=>rw[hp,hq] at this;cases this
  | some b =>
   rw[hp,hq] at this;simp only[Bool.and_eq_true,beq_iff_eq] at this;exact⟨a,rfl,by rw[this.2],this.1⟩
theorem fj{s:aa}(h:s.ok=true):s.gm=true/\s.lf.length<=8/\s.rt.length=s.lf.length:=by
 unfold aa.ok aa.ja at h;simp only[Bool.and_eq_true,decide_eq_true_eq] at h;exact⟨h.1.1,h.1.2.1,h.1.2.2⟩
theorem xP{s:aa}{sz:List Int}{mp:List (List Int)}(h:s.ok=true)(hr:s.fV sz mp=true):s.xO sz mp:=by
 refine⟨(fj h).2.2,fun i hi=>?_⟩;obtain⟨y,h1,h2,h3⟩:=ok_eq h hi;obtain⟨a1,a2,a3⟩:=qM h1;obtain⟨b1,b2,b3⟩:=qM h2;obtain⟨c1,_⟩:=ow hr;exact⟨by omega,fun r hlt=>⟨sS hr a3 (by omega) hlt,sS hr b3 (by omega) (by rw[<-h3];exact hlt)⟩⟩
def ak.fJ(s:aa)(d:ak):Bool:=s.fV d.sz d.mp&&(s.brk d.sz d.mp s.lf.length).isNone
def Ci:List Nat:=[0,1,4,2,5]
def KG:Sl:=ah Tryz.types Tryz.f171 Ci []
theorem T8:aC Tryz.prog Tryz.f171 Ci KG 2=true:=by decide +kernel
theorem XU(s:aa)(d:ak)(h:s.ok=true):aw Tryz.prog 171 [.v (ak.d d),.v (.ptr s.cells)] (.bool (d.fJ s)):=by
 have hs1:=(fj h).1;unfold ak.fJ;refine aK Tryz.func171 T8 ?_;unfold KG ah Ci;simp only[go_sem];refine an (Jz s d.sz d.mp hs1) rfl (.inl rfl) ?_;simp only[go_sem];refine⟨fun h2=>by rw[Bool.not_eq_true'] at h2;rw[h2];rfl,fun h2=>?_⟩;rw[Bool.not_eq_false'] at h2;obtain⟨_,h17,_⟩:=ow h2;refine an (Jy s d.sz d.mp (xP h h2) (fun x hx=>by have:=List.all_eq_true.1 h17 x hx;simp at this;omega)) rfl (.inl (by cases s.brk d.sz d.mp s.lf.length<;>rfl)) ?_;rw[h2];cases s.brk d.sz d.mp s.lf.length with
 | none =>
  simp only[oS];simp only[go_sem]
  all_goals simp
 | some p =>
  obtain⟨i,r⟩:=p;simp only[oS];simp only[go_sem]
  all_goals simp
  all_goals omega
def ak.all(s:aa):ak->List az->Option ak
 | d,[]=>some d
 | d,c::r=>if d.can s c=true then ak.all s (d.app s c) r else none
theorem Ed{s:aa}{d:ak}{l:List az}{i:Nat}(h:i<l.length):ak.all s d (l.drop i)=if d.can s (l.getD i az.zero)=true then ak.all s (d.app s (l.getD i az.zero)) (l.drop (i+1)) else none:=by
 rw[List.drop_eq_getElem_cons h,ak.all,aN h]
def xy(s:aa):Option ak->D
 | some d=>.al [ak.d d,.bool (d.fJ s)]
 | none=>.al [ak.d ak.zero,.bool false]
theorem dH.small{s:aa}{d:ak}(hs:di s)(h:dH s d):d.sz.length<=1048576/\dB List.length d.mp<=1048576:=by
 have h1:=h.nd;have h2:=hs.n8;have h3:=hs.f8;have h4:=h.mp;refine⟨by omega,?_⟩;unfold dB
 have:∀l:List (List Int),(∀x∈l,x.length<=16)->(l.map List.length).sum<=16*l.length:=by
  intro l;induction l with
  | nil=>intro _;simp
  | cons x l ih=>intro hx;have:=ih (fun y hy=>hx y (List.mem_cons_of_mem _ hy));have:=hx x List.mem_cons_self;simp only[List.map_cons,List.sum_cons,List.length_cons];omega
 have:=this d.mp (fun x hx=>by
  obtain⟨j,hj,rfl⟩:=List.getElem_of_mem hx;have:=h.vI hs j
  rwa [aN hj] at this)
 omega
def Cf:List Nat:=[0,1,2,6,7,3,8,10,13,14,15]
def KD:Sl:=ah Tryz.types Tryz.f135 Cf [(0,170)]
theorem T5:aC Tryz.prog Tryz.f135 Cf KD 3=true:=by decide +kernel
theorem XR(s:aa)(d:ak)(l:List az)(h:s.ok=true)(hd:dH s d):aw Tryz.prog 135 [.v (ak.d d),.v (.ptr s.cells),.v (ae az.d az.zero l)] (xy s (ak.all s d l)):=by
 have hs:=gw (fj h).1;obtain⟨m1,m2⟩:=hd.small hs;refine eZ fun hw=>?_
 simp only[dp,fZ] at hw;have hl:l.length<=maxLen:=hw.2.2.1.1;refine aK Tryz.func135 T5 ?_;unfold KD ah Cf;simp only[go_sem];refine an (XT d m1 m2) rfl (.inl (vX _)) ?_;simp only[go_sem];refine aE [7] (fun(p:Nat×ak)=>[(6,p.2.bx),(10,.int .i64 p.1)]) (fun p=>p.1<=l.length/\ak.all s p.2 (l.drop p.1)=ak.all s d l/\dH s p.2) (fun p=>l.length-p.1) (0,d) (by simp only[go_sem];rfl) ⟨Nat.zero_le _,rfl,hd⟩ rfl ?_;rintro⟨i,e⟩ ⟨hi,ha,he⟩;simp only at hi ha he;unfold ak.bx;simp only[go_sem];refine⟨fun h2=>⟨h2,?_⟩,fun h2=>?_⟩
 ·rw[Ed h2] at ha
  refine jB [6] false (XS s e (l.getD i az.zero) hs he) ?_;have hstep:=fun hc=>he.app (c:=l.getD i az.zero) hs hc
  cases hc:e.can s (l.getD i az.zero) with
  | false =>
   rw[hc,if_neg (by simp)] at ha;rw[<-ha,if_neg (by simp)];unfold ak.bx;simp only[go_sem]
   all_goals rfl
  | true =>
   rw[hc,if_pos rfl] at ha;rw[if_pos rfl];have:=hstep hc;generalize e.app s (l.getD i az.zero)=e' at ha this;unfold ak.bx;simp only[go_sem];exact⟨(i+1,e'),⟨h2,ha,this⟩,by show l.length-(i+1)<l.length-i;omega,by rw[aL h2 hl]⟩
 ·rw[show i=l.length by omega,List.drop_length] at ha
  rw[<-ha];refine an (XU s e h) rfl (.inl rfl) ?_;simp only[ak.all,xy];simp only[go_sem]
  all_goals rfl
end Go.D3
namespace Go.D3
open Go Proofs
set_option maxHeartbeats 4000000
set_option maxRecDepth 100000
theorem F9{fr to:List Int}:∀{l:List Int}{x:Int},bQ fr.length l=false->bw fr to x l=none
 | [],x,h=>by cases h
 | e::l,x,h=>by
  rw[bw];split
  ·rename_i hc
   simp only[Bool.and_eq_true,aR,decide_eq_true_eq] at hc;refine F9 ?_;unfold bQ at h|-
   rw[List.all_cons,Bool.and_eq_false_iff] at h;rcases h with h | h
   ·simp at h;omega
   ·exact h
  ·rfl
def Dv:List Nat:=[0,1,4,2,3,5,6]
def LX:Sl:=ah Tryz.types Tryz.f81 Dv []
theorem Vm:aC Tryz.prog Tryz.f81 Dv LX 2=true:=by decide +kernel
theorem JQ(s:aa)(p:U)(hto:s.to.length=s.fr.length)(hn : 0<=s.nd):aw Tryz.prog 81 [.v (aa.d s),.v (U.d p)] (.bool (s.aO p).isSome):=by
 refine eZ fun hw=>?_
 simp only[dp,fZ,aa.d,U.d,aa.cells,U.cells,D.dG,ik,IntKind.has,IntKind.max,IntKind.signed,IntKind.bits] at hw;have hn2:s.nd<=9223372036854775807:=by simpa using hw.1.1.2
 have hl:p.ed.length<=maxLen:=hw.2.1.2.1.1;have hsub:IntKind.i64.wrap (s.nd-1)=s.nd-1:=iG ⟨by simp[IntKind.min,IntKind.signed,IntKind.bits];omega,by simp[IntKind.max,IntKind.signed,IntKind.bits];omega⟩;refine aK Tryz.func81 Vm ?_;unfold LX ah Dv;simp only[go_sem];rw[hsub];refine an (pY _ _ _) rfl (.inl rfl) ?_;simp only[go_sem]
 have he:(aR p.st 0 (s.nd-1)&&decide (p.ed.length<=6))=!(!aR p.st 0 (s.nd-1) || decide ((6:Int)<(p.ed.length:Int))):=by
  rw[Bool.not_or,Bool.not_not,<-decide_not];congr 1;exact decide_eq_decide.2 (by omega)
 refine⟨fun h=>by simpa using h,bu (fun _=>tL _ _) rfl (fun h=>h) (.inl rfl) ?_⟩;simp only[go_sem];refine⟨(fun h=>by simp only[Bool.or_eq_false_iff,Bool.and_eq_true,Bool.not_eq_true',Bool.not_eq_false'] at h|-;exact h),fun h=>?_,fun h=>?_⟩
 ·unfold aa.aO
  rw[he];rw[Bool.or_eq_true,Bool.not_eq_true'] at h;rcases h with h | h
  ·rw[h];rfl
  ·rw[F9 h];simp
 ·rw[Bool.or_eq_false_iff,Bool.not_eq_false'] at h
  have hE:s.aO p=bw s.fr s.to p.st p.ed:=by unfold aa.aO;rw[he,h.1];rfl
  rw[hE];have hm:=fun i hi=>eM h.2 (i:=i) hi
  refine aE [] (fun(q:Nat×Int)=>[(5,.int .i64 q.2),(6,.int .i64 q.1)]) (fun q=>q.1<=p.ed.length/\bw s.fr s.to q.2 (p.ed.drop q.1)=bw s.fr s.to p.st p.ed) (fun q=>p.ed.length-q.1) (0,p.st) (by simp only[go_sem];rfl) ⟨Nat.zero_le _,rfl⟩ rfl ?_;rintro⟨i,y⟩ ⟨hi,ha⟩;simp only at hi ha;simp only[go_sem];refine⟨fun h2=>?_,fun h2=>?_⟩
  ·have hmi:=hm i h2
   rw[vh h2] at ha;have hin:aR (p.ed.getD i 0) 0 ((s.fr.length:Int)-1)=true:=by unfold aR;simp only[Bool.and_eq_true,decide_eq_true_eq];omega
   rw[hin,Bool.true_and] at ha;refine⟨h2,hmi,fun h3=>?_,fun h3=>⟨h2,by omega,(i+1,s.to.getD (p.ed.getD i 0).toNat 0),⟨h2,?_⟩,by show p.ed.length-(i+1)<p.ed.length-i;omega,by rw[aL h2 hl]⟩⟩
   ·rw[bne_iff_ne] at h3
    rw[if_neg (by rw[beq_iff_eq];exact h3)] at ha;rw[<-ha];rfl
   ·rw[bne_eq_false_iff_eq] at h3
    rw[if_pos (by rw[beq_iff_eq];exact h3)] at ha;exact ha
  ·rw[show i=p.ed.length by omega,List.drop_length] at ha
   rw[<-ha];rfl
theorem qT{fr to:List Int}:∀{l:List Int}{x y:Int},bw fr to x l=some y->y=(if l=[] then x else to.getD (l.getD (l.length-1) 0).toNat 0)/\∀i,i<l.length->0<=l.getD i 0/\l.getD i 0<fr.length
 | [],x,y,h=>by rw[bw] at h;injection h with h;subst h;exact⟨rfl,fun i hi=>by simp at hi⟩
 | e::l,x,y,h=>by
  rw[bw] at h;split at h
  ·rename_i hc
   simp only[Bool.and_eq_true,aR,decide_eq_true_eq] at hc;obtain⟨h1,h2⟩:=qT h;refine⟨?_,fun i hi=>?_⟩
   ·rw[if_neg (by simp),h1]
    cases l with
    | nil=>rfl
    | cons f l=>rw[if_neg (by simp)];rfl
   ·cases i with
    | zero=>exact⟨hc.1.1,by show e<_;omega⟩
    | succ i=>exact h2 i (by simpa using hi)
  ·cases h
def Ds:List Nat:=[0,1,4,2,3]
def LU:Sl:=ah Tryz.types Tryz.f82 Ds []
theorem Vj:aC Tryz.prog Tryz.f82 Ds LU 2=true:=by decide +kernel
theorem pZ(s:aa)(p:U)(y:Int)(hto:s.to.length=s.fr.length)(h:s.aO p=some y):aw Tryz.prog 82 [.v (aa.d s),.v (U.d p)] (.int .i64 y):=by
 obtain⟨_,h6,hf⟩:=qM h;obtain⟨hy,hr⟩:=qT hf;refine aK Tryz.func82 Vj ?_;unfold LU ah Ds;simp only[go_sem];refine⟨fun h2=>?_,fun h2=>?_⟩
 ·rw[hy,if_pos (List.length_eq_zero_iff.1 (by simpa using h2))]
 ·have h2:p.ed.length≠0:=by simpa using h2
  have hne:¬p.ed=[]:=fun e=>h2 (by rw[e];rfl)
  rw[if_neg hne] at hy;rw[M6 (by simp only[maxLen];omega)];have e1:((p.ed.length:Int)-1).toNat=p.ed.length-1:=by omega
  have:=hr (p.ed.length-1) (by omega);rw[e1];exact⟨by omega,by omega,by rw[hy]⟩
def DB:List Nat:=[0,1,2,6,7]
def L3:Sl:=ah Tryz.types Tryz.f105 DB []
theorem Vt:aC Tryz.prog Tryz.f105 DB L3 3=true:=by decide +kernel
theorem AS(mp:List (List Int))(l:List Int)(r:Int)(hok:kB mp r l):aw Tryz.prog 105 [.v (aF mp),.v (ints l),.v (.int .i64 r)] (.int .i64 (iy mp r l)):=by
 refine eZ fun hw=>?_
 simp only[dp,fZ] at hw;have hl:l.length<=maxLen:=hw.2.1.1;refine aK Tryz.func105 Vt ?_;unfold L3 ah DB;simp only[go_sem];refine aE [] (fun(p:Nat×Int)=>[(2,.int .i64 p.2),(4,.int .i64 p.1)]) (fun p=>p.1<=l.length/\iy mp p.2 (l.drop p.1)=iy mp r l/\kB mp p.2 (l.drop p.1)) (fun p=>l.length-p.1) (0,r) (by simp only[go_sem];rfl) ⟨Nat.zero_le _,rfl,hok⟩ rfl ?_;rintro⟨i,y⟩ ⟨hi,ha,hb⟩;simp only[go_sem];simp only at hi ha hb;refine⟨fun h=>?_,fun h=>?_⟩
 ·obtain⟨e1,e2⟩:=G6 (mp:=mp) (r:=y) h
  obtain⟨b1,b2,b3⟩:=e2 hb;exact⟨h,b1,b2,(i+1,(mp.getD (l.getD i 0).toNat []).getD y.toNat 0),⟨h,e1▸ha,b3⟩,by show l.length-(i+1)<l.length-i;omega,by rw[aL h hl]⟩
 ·rw[show i=l.length by omega,List.drop_length] at ha
  rw[<-ha];rfl
end Go.D3
namespace Go.D3
open Go
theorem l9{fr to:List Int}:∀{l m:List Int}{x:Int},bw fr to x (l++m)=(bw fr to x l).bind fun y=>bw fr to y m
 | [],m,x=>rfl
 | e::l,m,x=>by
  rw[List.cons_append,bw,bw];split
  ·exact l9
  ·rfl
theorem PE{fr to:List Int}{x:Int}{e:Nat}(he:e<fr.length)(hx:fr.getD e 0=x):bw fr to x [(e:Int)]=some (to.getD e 0):=by
 rw[bw,if_pos]
 ·rfl
 ·simp only[aR,Bool.and_eq_true,decide_eq_true_eq,beq_iff_eq,Int.toNat_natCast]
  exact⟨by omega,hx⟩
theorem bP{s:aa}{p:U}{y:Int}:s.aO p=some y↔(0<=p.st/\p.st<=s.nd-1)/\p.ed.length<=6/\bw s.fr s.to p.st p.ed=some y:=by
 unfold aa.aO;rw[<-and_assoc];constructor
 ·intro h
  split at h
  ·rename_i hc
   simp only[aR,Bool.and_eq_true,decide_eq_true_eq] at hc;exact⟨hc,h⟩
  ·cases h
 ·rintro⟨h1,h2⟩
  rw[if_pos (by simp only[aR,Bool.and_eq_true,decide_eq_true_eq];exact h1),h2]
theorem qO{s:aa}{x:Int}(h0 : 0<=x)(h1:x<s.nd):s.aO ⟨x,[]⟩=some x:=bP.2 ⟨⟨h0,by show x<=_;omega⟩,Nat.zero_le _,rfl⟩
theorem o5{s:aa}{p:U}{e:Nat}(h:s.aO p=some (s.fr.getD e 0))(he:e<s.fr.length)(hl:p.ed.length<6):s.aO ⟨p.st,p.ed++[(e:Int)]⟩=some (s.to.getD e 0):=by
 rw[bP] at h|-
 refine⟨h.1,by rw[List.length_append];exact hl,?_⟩;show bw s.fr s.to p.st (p.ed++_)=_;rw[l9,h.2.2];exact PE he rfl
theorem Pt{s:aa}{x:Int}{l:List Int}{e:Int}{y:Int}(h:s.aO ⟨x,l++[e]⟩=some y):∃k:Nat,e=k/\k<s.fr.length/\s.aO ⟨x,l⟩=some (s.fr.getD k 0):=by
 rw[bP] at h;obtain⟨h1,h2,h3⟩:=h;dsimp only at h1 h2 h3;rw[l9] at h3;cases hf:bw s.fr s.to x l with
 | none=>rw[hf] at h3;cases h3
 | some z =>
  rw[hf,Option.bind_some,bw] at h3;split at h3
  ·rename_i hc
   simp only[aR,Bool.and_eq_true,decide_eq_true_eq,beq_iff_eq] at hc;refine⟨e.toNat,by omega,by omega,bP.2 ⟨h1,?_,?_⟩⟩
   ·show l.length<=6
    rw[List.length_append,List.length_singleton] at h2;omega
   ·show bw s.fr s.to x l=_
    rw[hf,hc.2]
  ·cases h3
structure fL(s:aa)(out:List U)(i:Nat):Prop where
 v:∀p∈out,∃y,s.aO p=some y
 z:∀x:Nat,(x:Int)<s.nd->(⟨x,[]⟩:U)∈out
 c:∀j,j<i->∀e:Nat,e<s.fr.length->(out.getD j U.zero).ed.length<6->s.aO (out.getD j U.zero)=some (s.fr.getD e 0)->(⟨(out.getD j U.zero).st,(out.getD j U.zero).ed++[(e:Int)]⟩:U)∈out
structure dT(s:aa)(out:List U):Prop where
 v:∀p∈out,∃y,s.aO p=some y
 a:∀p y,s.aO p=some y->p∈out
theorem fL.done{s:aa}{out:List U}{i:Nat}(h:fL s out i)(hi:out.length<=i):dT s out:=by
 refine⟨h.v,?_⟩
 have key:∀(n:Nat)(x:Int)(l:List Int),l.length=n->∀y,s.aO ⟨x,l⟩=some y->(⟨x,l⟩:U)∈out:=by
  intro n;induction n with
  | zero =>
   intro x l hl y hy;obtain rfl:=List.length_eq_zero_iff.1 hl;obtain⟨h1,_,_⟩:=bP.1 hy;dsimp only at h1;have:=h.z x.toNat (by omega)
   rwa [show((x.toNat:Nat):Int)=x by omega] at this
  | succ n ih =>
   intro x l hl y hy;have hne:l≠[]:=fun e=>by rw[e] at hl;cases hl
   rw[<-List.dropLast_concat_getLast hne] at hy|-
   obtain⟨k,hk,hk2,hp⟩:=Pt hy;have hm:=ih x l.dropLast (by rw[List.length_dropLast];omega) _ hp;obtain⟨j,hj,hg⟩:=List.getElem_of_mem hm;have hgd:out.getD j U.zero=⟨x,l.dropLast⟩:=by rw[aN hj,hg]
   have h6:=(bP.1 hy).2.1;rw[hk]
   have:=h.c j (by omega) k hk2 (by
    rw[hgd];simp only[List.length_append,List.length_dropLast,List.length_singleton] at h6|-
    omega) (by rw[hgd];exact hp)
   rwa [hgd] at this
 exact fun p y hy=>key _ p.st p.ed rfl y hy
def mH(l:List U)(x:Int)(ed:List Int):Int:=if l.findIdx (fun p=>p.st == x&&p.ed == ed)<l.length then((l.findIdx (fun p=>p.st == x&&p.ed == ed):Nat):Int) else -1
theorem tu{l:List U}{x:Int}{ed:List Int}(h:(⟨x,ed⟩:U)∈l):∃j:Nat,mH l x ed=j/\j<l.length/\l.getD j U.zero=⟨x,ed⟩:=by
 have hl:l.findIdx (fun p=>p.st == x&&p.ed == ed)<l.length:=List.findIdx_lt_length_of_exists ⟨_,h,by simp⟩;refine⟨_,by unfold mH;rw[if_pos hl],hl,?_⟩;have:=List.findIdx_getElem (w:=hl);rw[<-aN (d:=U.zero) hl] at this;generalize l.getD (l.findIdx (fun p=>p.st == x&&p.ed == ed)) U.zero=q at this;simp only[Bool.and_eq_true,beq_iff_eq] at this;cases q;dsimp only at this;rw[this.1,this.2]
structure ux(s:aa)(list:List U)(cl:List Int):Prop where
 len:cl.length=list.length
 ge:∀i,i<list.length->0<=cl.getD i 0/\cl.getD i 0<list.length
 f:∀i (m:Nat),i<list.length->(∀q,q<i->cl.getD q 0<m)->cl.getD i 0<=m
 same:∀i j,i<list.length->j<list.length->cl.getD i 0=cl.getD j 0->(list.getD i U.zero).st=(list.getD j U.zero).st/\s.aO (list.getD i U.zero)=s.aO (list.getD j U.zero)
theorem OV{s:aa}{list:List U}{P:List (List Int)}{cl:List Int}(h:ng (cF (bB list.length) P) cl)
  (hP:∀p∈P,∃a b:Nat,a<list.length/\b<list.length/\p.getD 0 0=a/\p.getD 1 0=b/\(list.getD a U.zero).st=(list.getD b U.zero).st/\s.aO (list.getD a U.zero)=s.aO (list.getD b U.zero)):ux s list cl:=by
 have hl:(cF (bB list.length) P).length=list.length:=by rw[sQ,eE]
 refine⟨by rw[h.len,hl],fun i hi=>by have:=h.ge i (by omega);rwa [hl] at this,fun i m hi=>h.f i m (by omega),fun i j hi hj e=>?_⟩
 have:=h.same (fun i=>((list.getD i U.zero).st,s.aO (list.getD i U.zero))) (fun p hp=>by
  obtain⟨a,b,h1,h2,h3,h4,h5,h6⟩:=hP p hp
  exact⟨a,b,h1,h2,h3,h4,by rw[h5,h6]⟩) hi hj e
 exact⟨congrArg Prod.fst this,congrArg Prod.snd this⟩
structure jt(s:aa)(list:List U)(cl:List Int)(i:Nat)(least:List U):Prop where
 lt:∀j,j<i->cl.getD j 0<least.length
 ex:∀k,k<least.length->∃j,j<i/\j<list.length/\cl.getD j 0=k/\least.getD k U.zero=list.getD j U.zero
 ib:∀k,k<least.length->(least.getD k U.zero).ed.length<6
theorem jt.zero{s:aa}{list:List U}{cl:List Int}:jt s list cl 0 []:=⟨fun _ hj=>absurd hj (Nat.not_lt_zero _),fun _ hk=>absurd hk (Nat.not_lt_zero _),fun _ hk=>absurd hk (Nat.not_lt_zero _)⟩
theorem jt.old{s:aa}{list:List U}{cl:List Int}{i:Nat}{least:List U}(hc:ux s list cl)(h:jt s list cl i least)(hi:i<list.length)(hn:cl.getD i 0≠least.length):jt s list cl (i+1) least:=by
 refine⟨fun j hj=>?_,fun k hk=>?_,h.ib⟩
 ·by_cases hji:j<i
  ·exact h.lt j hji
  ·rw[show j=i by omega]
   have:=hc.f i least.length hi h.lt;omega
 ·obtain⟨j,h1,h2⟩:=h.ex k hk
  exact⟨j,by omega,h2⟩
theorem jt.new{s:aa}{list:List U}{cl:List Int}{i:Nat}{least:List U}(h:jt s list cl i least)(hi:i<list.length)(he:cl.getD i 0=least.length)(h6:(list.getD i U.zero).ed.length<6):jt s list cl (i+1) (least++[list.getD i U.zero]):=by
 have hlt:∀{k},k<least.length->(least++[list.getD i U.zero]).getD k U.zero=least.getD k U.zero:=fun hk=>by rw[gL (by omega),if_neg (by omega)]
 have hel:(least++[list.getD i U.zero]).getD least.length U.zero=list.getD i U.zero:=by rw[gL (Nat.le_refl _),if_pos rfl]
 refine⟨fun j hj=>?_,fun k hk=>?_,fun k hk=>?_⟩
 ·rw[List.length_append,List.length_singleton]
  by_cases hji:j<i
  ·have:=h.lt j hji;omega
  ·rw[show j=i by omega];omega
 ·rw[List.length_append,List.length_singleton] at hk
  by_cases hkl:k<least.length
  ·obtain⟨j,h1,h2,h3,h4⟩:=h.ex k hkl
   exact⟨j,by omega,h2,h3,by rw[hlt hkl,h4]⟩
  ·obtain rfl:k=least.length:=by omega
   exact⟨i,by omega,hi,he,hel⟩
 ·rw[List.length_append,List.length_singleton] at hk
  by_cases hkl:k<least.length
  ·rw[hlt hkl];exact h.ib k hkl
  ·obtain rfl:k=least.length:=by omega
   rw[hel];exact h6
theorem jt.at'{s:aa}{list:List U}{cl:List Int}{least:List U}(hA:dT s list)(hc:ux s list cl)(h:jt s list cl list.length least){x:Int}{ed:List Int}{y:Int}(hy:s.aO ⟨x,ed⟩=some y) :
  ∃j k:Nat,mH list x ed=j/\j<cl.length/\cl.getD j 0=k/\k<least.length/\(least.getD k U.zero).st=x/\s.aO (least.getD k U.zero)=some y/\(least.getD k U.zero).ed.length<6:=by
 obtain⟨j,h1,h2,h3⟩:=tu (hA.a _ _ hy);have h4:=(hc.ge j h2).1;have h5:=h.lt j h2;obtain⟨k,hk⟩:∃k:Nat,cl.getD j 0=k:=⟨(cl.getD j 0).toNat,by omega⟩;obtain⟨j',_,h6,h7,h8⟩:=h.ex k (by omega);obtain⟨h9,h10⟩:=hc.same j' j h6 h2 (by rw[h7,hk]);refine⟨j,k,h1,by rw[hc.len];exact h2,hk,by omega,?_,?_,h.ib k (by omega)⟩
 ·rw[h8,h9,h3]
 ·rw[h8,h10,h3,hy]
end Go.D3
namespace Go.D3
open Go
def iY(i:Nat):List U:=(List.range i).map fun x:Nat=>⟨x,[]⟩
theorem pF{i:Nat}:(iY i).length=i:=by simp[iY]
theorem HN{i:Nat}:iY (i+1)=iY i++[⟨i,[]⟩]:=by unfold iY;rw[List.range_succ,List.map_append];rfl
theorem HO{s:aa}(hs:di s):fL s (iY s.nd.toNat) 0:=by
 have h0:=hs.n0;refine⟨fun p hp=>?_,fun x hx=>?_,fun j hj=>by omega⟩
 ·obtain⟨x,hx,rfl⟩:=List.mem_map.1 hp
  rw[List.mem_range] at hx;exact⟨x,qO (by omega) (by omega)⟩
 ·exact List.mem_map.2 ⟨x,List.mem_range.2 (by omega),rfl⟩
theorem fL.ib{s:aa}{o:List U}{i:Nat}(h:fL s o i)(h6:¬(o.getD i U.zero).ed.length<6):fL s o (i+1):=by
 refine⟨h.v,h.z,fun j hj e he hl hE=>?_⟩;by_cases hji:j<i
 ·exact h.c j hji e he hl hE
 ·rw[show j=i by omega] at hl;exact absurd hl h6
theorem fL.add{s:aa}{o:List U}{i:Nat}(h:fL s o i)(hi:i<=o.length){q:U}{y:Int}(hq:s.aO q=some y):fL s (o++[q]) i:=by
 refine⟨fun p hp=>?_,fun x hx=>List.mem_append_left _ (h.z x hx),fun j hj e he=>?_⟩
 ·rcases List.mem_append.1 hp with hp | hp
  ·exact h.v p hp
  ·rw[List.mem_singleton] at hp;subst hp;exact⟨y,hq⟩
 ·rw[gL (by omega),if_neg (by omega)]
  exact fun hl hE=>List.mem_append_left _ (h.c j hj e he hl hE)
theorem fL.next{s:aa}{o:List U}{i:Nat}(h:fL s o i)(hc:∀e:Nat,e<s.fr.length->s.aO (o.getD i U.zero)=some (s.fr.getD e 0)->(⟨(o.getD i U.zero).st,(o.getD i U.zero).ed++[(e:Int)]⟩:U)∈o):fL s o (i+1):=by
 refine⟨h.v,h.z,fun j hj e he hl hE=>?_⟩;by_cases hji:j<i
 ·exact h.c j hji e he hl hE
 ·obtain rfl:j=i:=by omega
  exact hc e he hE
theorem fL.at'{s:aa}{o:List U}{i j:Nat}(h:fL s o i)(hj:j<o.length):∃y,s.aO (o.getD j U.zero)=some y:=by
 rw[aN hj];exact h.v _ (List.getElem_mem _)
theorem dT.at'{s:aa}{o:List U}{j:Nat}(h:dT s o)(hj:j<o.length):∃y,s.aO (o.getD j U.zero)=some y:=by
 rw[aN hj];exact h.v _ (List.getElem_mem _)
theorem dT.perm{s:aa}{o l:List U}(h:dT s l)(hp:o.Perm l):dT s o:=⟨fun p q=>h.v p (hp.mem_iff.1 q),fun p y hy=>hp.mem_iff.2 (h.a p y hy)⟩
def oI(o:List U)(k:Nat):List U:=(o.set k (o.getD (k-1) U.zero)).set (k-1) (o.getD k U.zero)
theorem aaz{o:List U}{k:Nat}(hk:k<o.length):(oI o k).Perm o:=by
 unfold oI;rw[aN hk,aN (show k-1<o.length by omega)];exact List.set_set_perm hk (by omega)
def xk(n:Nat)(P:List (List Int)):Prop:=∀p∈P,∃a b:Nat,p=[(a:Int),(b:Int)]/\a<n/\b<n
theorem xk.get{n:Nat}{P:List (List Int)}(h:xk n P){k:Nat}(hk:k<P.length):∃a b:Nat,P.getD k []=[(a:Int),(b:Int)]/\a<n/\b<n:=by
 rw[aN hk];exact h _ (List.getElem_mem _)
def ni(s:aa)(list:List U)(P:List (List Int)):Prop:=∀p∈P,∃a b:Nat,p=[(a:Int),(b:Int)]/\a<list.length/\b<list.length/\(list.getD a U.zero).st=(list.getD b U.zero).st/\s.aO (list.getD a U.zero)=s.aO (list.getD b U.zero)
theorem ni.pr{s:aa}{list:List U}{P:List (List Int)}(h:ni s list P):xk list.length P:=fun p hp=>by
 obtain⟨a,b,h1,h2,h3,_⟩:=h p hp;exact⟨a,b,h1,h2,h3⟩
theorem ni.add{s:aa}{list:List U}{P:List (List Int)}(h:ni s list P){a b:Nat}(ha:a<list.length)(hb:b<list.length)(h1:(list.getD a U.zero).st=(list.getD b U.zero).st)(h2:s.aO (list.getD a U.zero)=s.aO (list.getD b U.zero)) :
  ni s list (P++[[(a:Int),(b:Int)]]):=fun p hp=>by
 rcases List.mem_append.1 hp with hp | hp
 ·exact h p hp
 ·rw[List.mem_singleton] at hp;subst hp;exact⟨a,b,rfl,ha,hb,h1,h2⟩
theorem ni.cls{s:aa}{list:List U}{P:List (List Int)}{cl:List Int}(h:ni s list P)(hj:ng (cF (bB list.length) P) cl):ux s list cl:=OV hj fun p hp=>by
 obtain⟨a,b,rfl,h1,h2,h3,h4⟩:=h p hp;exact⟨a,b,h1,h2,rfl,rfl,h3,h4⟩
theorem qN{s:aa}{p:U}{y:Int}(h:s.aO p=some y){i:Nat}(hi:i<=p.ed.length):bw s.fr s.to p.st (p.ed.take i)=some (if i=0 then p.st else s.to.getD (p.ed.getD (i-1) 0).toNat 0):=by
 have h3:=(bP.1 h).2.2;rw[<-List.take_append_drop i p.ed,l9] at h3;cases hf:bw s.fr s.to p.st (p.ed.take i) with
 | none=>rw[hf] at h3;cases h3
 | some m =>
  have:=(qT hf).1;rw[this];by_cases hi0:i=0
  ·subst hi0;rfl
  ·have hne:¬p.ed.take i=[]:=fun e=>by
    have:=congrArg List.length e;rw[List.length_take,List.length_nil] at this;omega
   rw[if_neg hne,if_neg hi0];congr 3;rw[List.length_take,Nat.min_eq_left hi,List.getD_eq_getElem?_getD,List.getElem?_take,if_pos (by omega),List.getD_eq_getElem?_getD]
theorem u6{s:aa}{w p q:U}{y z m:Int}{i:Nat}(hw:s.aO w=some y)(hp:s.aO p=some z)(hq:s.aO q=some z)(aM:p.st=q.st)(hi:i+p.ed.length<=w.ed.length)
  (hm:bw s.fr s.to w.st (w.ed.take i)=some m) (hpm:m=p.st) (hs:(w.ed.take (i+p.ed.length)).drop i=p.ed) (hl:w.ed.length-p.ed.length+q.ed.length<=6) :
  s.aO ⟨w.st,w.ed.take i++q.ed++w.ed.drop (i+p.ed.length)⟩=some y:=by
 obtain⟨h1,h2,h3⟩:=bP.1 hw;refine bP.2 ⟨h1,?_,?_⟩
 ·show(w.ed.take i++q.ed++w.ed.drop _).length<=6
  simp only[List.length_append,List.length_take,List.length_drop];omega
 ·show bw s.fr s.to w.st (w.ed.take i++q.ed++w.ed.drop _)=_
  have e:w.ed=w.ed.take i++p.ed++w.ed.drop (i+p.ed.length):=by
   conv=>lhs;rw[<-List.take_append_drop (i+p.ed.length) w.ed,<-List.take_append_drop i (w.ed.take (i+p.ed.length)),hs,List.take_take,Nat.min_eq_left (by omega)]
  rw[e,List.append_assoc,l9,hm,Option.bind_some,l9,hpm,(bP.1 hp).2.2,Option.bind_some] at h3;rw[List.append_assoc,l9,hm,Option.bind_some,l9,hpm,aM,(bP.1 hq).2.2,Option.bind_some,h3]
end Go.D3
namespace Go.D3
open Go Proofs
set_option maxHeartbeats 4000000
set_option maxRecDepth 100000
theorem NJ{l:List (List Int)}{a b:Int}:(ae ints [] l).dj [.slice (.int .i64 0) [.int .i64 a,.int .i64 b]]=aF (l++[[a,b]]):=by
 simp only[ae,D.dj,aF,List.map_append,List.map_cons,List.map_nil]
attribute [go_sem high] NJ
def C5:List Nat:=[0,2,3,4,5,6]
def Lu:Sl:=ah Tryz.types Tryz.f162 C5 []
theorem UX:aC Tryz.prog Tryz.f162 C5 Lu 1=true:=by decide +kernel
theorem YH(l:List Int)(hl:l.length<=1048576):aw Tryz.prog 162 [.v (ints l)] (ints (eK l)):=by
 refine aK Tryz.func162 UX ?_;unfold Lu ah C5;simp only[go_sem];refine aE [5] (fun(i:Nat)=>[(2,.o (ints (eL (l.take i)).2)),(3,.o (ints (eL (l.take i)).1)),(4,.int .i64 i)]) (fun i=>i<=l.length) (fun i=>l.length-i) 0 (by simp only[go_sem];rfl) (Nat.zero_le _) rfl ?_;intro i hi;have hI:=oV (L:=l) i hi;have h1:=hI.len;have h2:=hI.sle hi;simp only[go_sem];refine⟨fun h=>⟨h,an (YK _ _ (by omega)) rfl (.inl rfl) ?_⟩,fun h=>?_⟩
 ·have hs:eL (l.take (i+1))=j5 (eL (l.take i)) (l.getD i 0):=by rw[bN h 0,yb]
  have hw:=aL h (show l.length<=maxLen by simp only[maxLen];omega);generalize eL (l.take i)=st at hs h1 h2;simp only[go_sem];refine⟨fun hx=>?_,fun hx=>?_⟩
  ·refine⟨h,by omega,by omega,i+1,h,by omega,?_⟩
   rw[hs,j5,if_pos hx,hw]
  ·refine⟨by omega,i+1,h,by omega,?_⟩
   rw[hs,j5,if_neg hx,hw]
 ·rw[List.take_of_length_le (by omega)];rfl
theorem Tj{n:Nat}:bB (n+1)=bB n++[(n:Int)]:=by unfold bB;rw[List.range_succ,List.map_append];rfl
theorem Jh{l:List Int}{a b:Int}{i:Nat}(h:i<l.length):((dN l a b).take i++l.drop i).getD i 0=l.getD i 0:=by
 rw[List.getD_eq_getElem?_getD,List.getElem?_append_right (by rw[List.length_take,iB];omega),List.length_take,iB,Nat.min_eq_left (by omega),Nat.sub_self,List.getElem?_drop,Nat.add_zero,List.getD_eq_getElem?_getD]
theorem W2{l:List Int}{a b:Int}{i:Nat}(h:i<l.length):(dN l a b).take (i+1)++l.drop (i+1)=((dN l a b).take i++l.drop i).set i (if l.getD i 0=b then a else l.getD i 0):=by
 have hl:i<(dN l a b).length:=by rw[iB];exact h
 rw[List.drop_eq_getElem_cons h,List.set_append_right _ _ (by rw[List.length_take];omega),List.length_take,Nat.min_eq_left (by omega),Nat.sub_self,List.set_cons_zero,bN hl 0,rD h,List.append_assoc];rfl
def Da:List Nat:=[0,1,4,5,6,7,8,9,10]
def Lz:Sl:=ah Tryz.types Tryz.f127 Da []
theorem U2:aC Tryz.prog Tryz.f127 Da Lz 2=true:=by decide +kernel
theorem YL(n:Nat)(P:List (List Int))(hn:n<=1048576)(hl:P.length<=1048576)(hP:∀k,k<P.length->∃a b:Nat,P.getD k []=[(a:Int),(b:Int)]/\a<n/\b<n):aw Tryz.prog 127 [.v (.int .i64 n),.v (aF P)] (ints (eK (cF (bB n) P))):=by
 refine aK Tryz.func127 U2 ?_;unfold Lz ah Da;simp only[go_sem];refine aE [] (fun(i:Nat)=>[(3,.o (ints (bB i))),(4,.int .i64 i)]) (fun i=>i<=n) (fun i=>n-i) 0 (by simp only[go_sem];rfl) (Nat.zero_le _) rfl ?_;intro i hi;simp only[go_sem];refine⟨fun h=>⟨by rw[eE];omega,i+1,by omega,by omega,by rw[aL (show i<n by omega) (by simp only[maxLen];omega),Tj]⟩,fun h=>?_⟩;obtain rfl:i=n:=by omega
 refine aE [6,7,8] (fun(k:Nat)=>[(3,.o (ints (cF (bB i) (P.take k)))),(5,.int .i64 k)]) (fun k=>k<=P.length) (fun k=>P.length-k) 0 (by simp only[go_sem];rfl) (Nat.zero_le _) rfl ?_;intro k hk;have hL:(cF (bB i) (P.take k)).length=i:=by rw[sQ,eE]
 simp only[go_sem];refine⟨fun h2=>?_,fun h2=>?_⟩
 ·obtain⟨u,v,hp,hu,hv⟩:=hP k h2
  have hs:cF (bB i) (P.take (k+1))=dN (cF (bB i) (P.take k)) ((cF (bB i) (P.take k)).getD u 0) ((cF (bB i) (P.take k)).getD v 0):=by
   rw[bN h2 [],Qv,hp];rfl
  have hw:=aL h2 (show P.length<=maxLen by simp only[maxLen];omega);rw[hp];simp only[List.getD_cons_zero,List.getD_cons_succ,Int.toNat_natCast,List.length_cons,List.length_nil];generalize cF (bB i) (P.take k)=L at hs hL;generalize L.getD u 0=x at hs;generalize L.getD v 0=y at hs;refine⟨h2,by omega,by omega,h2,by omega,by omega,?_⟩;refine aE [] (fun(j:Nat)=>[(3,.o (ints ((dN L x y).take j++L.drop j))),(8,.int .i64 j)]) (fun j=>j<=L.length) (fun j=>L.length-j) 0 (by simp only[go_sem];rfl) (Nat.zero_le _) rfl ?_;intro j hj;have hl2:((dN L x y).take j++L.drop j).length=L.length:=by rw[List.length_append,List.length_take,List.length_drop,iB];omega
  simp only[go_sem];simp only[hl2];refine⟨fun h3=>?_,fun h3=>?_⟩
  ·simp only[Bool.and_eq_true,decide_eq_true_eq,bne_iff_ne] at h3
   have aM:=W2 (a:=x) (b:=y) h3.1;have hw2:=aL h3.1 (show L.length<=maxLen by simp only[maxLen];omega);rw[Jh h3.1,hw2];refine⟨h3.1,fun h4=>⟨h3.1,h3.1,j+1,h3.1,by omega,?_⟩,fun h4=>⟨j+1,h3.1,by omega,?_⟩⟩
   ·rw[aM,if_pos h4]
   ·have h4:L.getD j 0≠y:=by simpa using h4
    rw[aM,if_neg h4]
    have e:((dN L x y).take j++L.drop j).set j (L.getD j 0)=(dN L x y).take j++L.drop j:=by
     rw[<-Jh (a:=x) (b:=y) h3.1,aN (by omega),List.set_getElem_self]
    rw[e]
  ·have:(dN L x y).take j++L.drop j=dN L x y:=by
    by_cases hxy:x=y
    ·have:dN L x y=L:=by
      subst hxy;unfold dN
      conv=>rhs;rw[<-List.map_id L]
      refine List.map_congr_left fun z _=>?_
      show(if z=x then x else z)=z;split<;>simp_all
     rw[this,List.take_append_drop]
    ·have:¬j<L.length:=fun h4=>by simp[h4,hxy] at h3
     rw[List.take_of_length_le (by rw[iB];omega),List.drop_of_length_le (by omega),List.append_nil]
   exact⟨k+1,h2,by omega,by rw[hs,this,hw]⟩
 ·rw[List.take_of_length_le (by omega)]
  refine an (YH _ (by rw[sQ,eE];exact hn)) rfl (.inl (bT _)) ?_;simp only[go_sem]
def Dr:List Nat:=[0,1,4]
def LS:Sl:=ah Tryz.types Tryz.f100 Dr []
theorem Vi:aC Tryz.prog Tryz.f100 Dr LS 2=true:=by decide +kernel
theorem YU(n:Nat)(P:List (List Int))(hn:n<=1048576)(hl:P.length<=1048576)(hP:∀k,k<P.length->∃a b:Nat,P.getD k []=[(a:Int),(b:Int)]/\a<n/\b<n):aw Tryz.prog 100 [.v (.int .i64 n),.v (aF P)] (ints (eK (cF (bB n) P))):=by
 refine aK Tryz.func100 Vi ?_;unfold LS ah Dr;simp only[go_sem];refine an (YL n P hn hl hP) rfl (.inl (bT _)) ?_;simp only[go_sem]
end Go.D3
namespace Go.D3
open Go Proofs
set_option maxHeartbeats 4000000
set_option maxRecDepth 100000
def Dw:List Nat:=[0,1,2,6,7]
def LY:Sl:=ah Tryz.types Tryz.f102 Dw []
theorem Vn:aC Tryz.prog Tryz.f102 Dw LY 3=true:=by decide +kernel
theorem tN(l:List U)(x:Int)(ed:List Int)(hl:l.length<=1048576)(he:∀i,i<l.length->(l.getD i U.zero).ed.length<=1048576) :
  aw Tryz.prog 102 [.v (ae U.d U.zero l),.v (.int .i64 x),.v (ints ed)] (.int .i64 (mH l x ed)):=by
 refine aK Tryz.func102 Vn ?_;unfold LY ah Dw;simp only[go_sem];refine aE [] (fun i:Nat=>[(4,.int .i64 i)]) (fun i=>i<=l.findIdx fun p=>p.st == x&&p.ed == ed) (fun i=>l.length-i) 0 (by simp only[go_sem];rfl) (Nat.zero_le _) rfl ?_;intro i hi;have hfl:=List.findIdx_le_length (p:=fun p:U=>p.st == x&&p.ed == ed) (xs:=l);have hp:mH l x ed=if l.findIdx (fun p=>p.st == x&&p.ed == ed)<l.length then((l.findIdx (fun p=>p.st == x&&p.ed == ed):Nat):Int) else -1:=rfl
 simp only[go_sem];refine⟨fun h1=>⟨h1,fun h2=>⟨h2,h1⟩,bu (fun _=>AR _ _ (he i h1)) rfl (fun h=>h) (.inl rfl) ?_⟩,fun h1=>?_⟩
 ·simp only[go_sem]
  refine⟨fun h2=>?_,fun h2=>⟨i+1,?_,by omega,by rw[aL h1 (by simp only[maxLen];omega)]⟩⟩
  ·have:l.findIdx (fun p=>p.st == x&&p.ed == ed)<=i:=by
    apply Nat.le_of_not_lt;intro hh;have:=List.not_of_lt_findIdx hh;rw[<-aN (d:=U.zero) h1,h2] at this;cases this
   have e:l.findIdx (fun p=>p.st == x&&p.ed == ed)=i:=by omega
   rw[hp,e,if_pos h1]
  ·by_cases hlt:i<l.findIdx fun p=>p.st == x&&p.ed == ed
   ·omega
   ·have e:l.findIdx (fun p=>p.st == x&&p.ed == ed)=i:=by omega
    have:=List.findIdx_getElem (w:=show l.findIdx (fun p=>p.st == x&&p.ed == ed)<l.length by omega);simp only[e] at this;rw[<-aN (d:=U.zero) h1,h2] at this;cases this
 ·rw[hp,if_neg (by omega)]
def fC(p:U)(y:Int):List Int:=[p.st,y,p.ed.length]++p.ed
def Dt:List Nat:=[0,1,2,6,3,4,5,7,8]
def LV:Sl:=ah Tryz.types Tryz.f126 Dt []
theorem Vk:aC Tryz.prog Tryz.f126 Dt LV 3=true:=by decide +kernel
theorem YV(s:aa)(p q:U)(y z:Int)(hto:s.to.length=s.fr.length)(hp:s.aO p=some y)(hq:s.aO q=some z):aw Tryz.prog 126 [.v (aa.d s),.v (U.d p),.v (U.d q)] (.bool (lexB (fC p y) (fC q z))):=by
 refine aK Tryz.func126 Vk ?_;unfold LV ah Dt;simp only[go_sem];have h6:=(bP.1 hp).2.1;have h7:=(bP.1 hq).2.1;refine an (pZ s p y hto hp) rfl (.inl rfl) ?_;simp only[go_sem];refine⟨p6 _,by rw[List.length_map];omega,an (pZ s q z hto hq) rfl (.inl rfl) ?_⟩;simp only[go_sem];refine⟨p6 _,by rw[List.length_map];omega,an (YM (fC p y) (fC q z) (by simp only[fC,List.length_append,List.length_cons,List.length_nil];omega)) rfl (.inl rfl) ?_⟩;simp only[go_sem]
def fm:Option U->D
 | some p=>.agg [.int .i64 p.st,.vw (ints p.ed)]
 | none=>.agg [.int .i64 0,ints []]
structure bj where
 c:au
 ls:List U
 ed:List Int
def bj.cells(x:bj):List D:=[.int .i64 x.c.ob,ints x.c.fr,ints x.c.to,ints x.c.aU,aF x.c.co,ae fm none (x.ls.map some),ints x.ed]
def bj.d(x:bj):D:=.agg x.cells
attribute [go_sem] bj.d.eq_1 bj.cells.eq_1
def bj.arr(x:bj)(p:U)(i:Nat):Int:=(p.ed.take i).foldl (fun h e=>x.c.ck h (x.ed.getD e.toNat 0)) (x.c.iQ p.st)
def Dp:List Nat:=[0,1,4,2,3,5,6]
def LQ:Sl:=ah Tryz.types Tryz.f47 Dp []
theorem Vg:aC Tryz.prog Tryz.f47 Dp LQ 2=true:=by decide +kernel
theorem YS(x:bj)(p:U)(hs : 0<=p.st/\p.st<x.c.aU.length)(he:∀i,i<p.ed.length->0<=p.ed.getD i 0/\p.ed.getD i 0<x.ed.length)
  (h:∀i,i<p.ed.length->(0<=x.arr p i/\x.arr p i<x.c.co.length)/\0<=x.ed.getD (p.ed.getD i 0).toNat 0/\x.ed.getD (p.ed.getD i 0).toNat 0<(x.c.co.getD (x.arr p i).toNat []).length) (hl:p.ed.length<=1048576) :
  aw Tryz.prog 47 [.v (bj.d x),.v (U.d p)] (.int .i64 (x.arr p p.ed.length)):=by
 refine aK Tryz.func47 Vg ?_;unfold LQ ah Dp;simp only[go_sem];refine⟨hs,?_⟩;refine aE [] (fun(i:Nat)=>[(5,.int .i64 (x.arr p i)),(6,.int .i64 i)]) (fun i=>i<=p.ed.length) (fun i=>p.ed.length-i) 0 (by simp only[go_sem];rfl) (Nat.zero_le _) rfl ?_;intro i hi;simp only[go_sem];refine⟨fun h1=>?_,fun h1=>by rw[show i=p.ed.length by omega]⟩;obtain⟨h2,h3⟩:=h i h1;refine⟨h2,h1,he i h1,h3,i+1,h1,by omega,?_⟩
 have e:x.arr p (i+1)=(x.c.co.getD (x.arr p i).toNat []).getD (x.ed.getD (p.ed.getD i 0).toNat 0).toNat 0:=by
  unfold bj.arr;rw[bN h1 0,List.foldl_append];rfl
 rw[e,aL h1 (by simp only[maxLen];omega)]
end Go.D3
namespace Go.D3
open Go
theorem Hc:∀a:List Int,lexB a a=false
 | []=>rfl
 | x::l=>by simp only[lexB,if_true];exact Hc l
theorem sT:∀{a b:List Int},lexB a b=true->lexB b a=false
 | [],[],_=>rfl
 | [],_::_,_=>rfl
 | _::_,[],h=>by cases h
 | a::l,b::r,h=>by
  unfold lexB at h|-
  by_cases e:a=b
  ·rw[if_pos e] at h;rw[if_pos e.symm];exact sT h
  ·rw[if_neg e] at h;rw[if_neg (Ne.symm e)];simp at h|-;omega
theorem vD:∀{a b c:List Int},lexB b a=false->lexB c b=false->lexB c a=false
 | [],_,[],_,_=>rfl
 | [],_,_::_,_,_=>rfl
 | _::_,[],_,h,_=>by cases h
 | _::_,_::_,[],_,h=>by cases h
 | a::l,b::r,c::s,h1,h2=>by
  unfold lexB at h1 h2|-
  by_cases e1:b=a
  ·subst e1
   rw[if_pos rfl] at h1;by_cases e2:c=b
   ·subst e2;rw[if_pos rfl] at h2|-;exact vD h1 h2
   ·rw[if_neg e2] at h2|-;exact h2
  ·rw[if_neg e1] at h1
   by_cases e2:c=b
   ·subst e2;rw[if_neg e1];exact h1
   ·rw[if_neg e2] at h2
    simp at h1 h2;rw[if_neg (by omega)];simp;omega
theorem Hb:∀{a b:List Int},lexB a b=false->lexB b a=false->a=b
 | [],[],_,_=>rfl
 | [],_::_,h,_=>by cases h
 | _::_,[],_,h=>by cases h
 | a::l,b::r,h1,h2=>by
  unfold lexB at h1 h2;by_cases e:a=b
  ·subst e;rw[if_pos rfl] at h1 h2;rw[Hb h1 h2]
  ·rw[if_neg e] at h1;rw[if_neg (Ne.symm e)] at h2;simp at h1 h2;omega
def aa.sp(s:aa)(p:U):Prop:=∃y,s.aO p=some y
def aa.en(s:aa)(p:U):Int:=(s.aO p).getD 0
def aa.gk(s:aa)(p:U)(i a:Nat)(q:U):Prop :=
 i<s.lf.length/\a+(s.lf.getD i U.zero).ed.length<=p.ed.length/\bw s.fr s.to p.st (p.ed.take a)=some (s.lf.getD i U.zero).st /\
 (p.ed.take (a+(s.lf.getD i U.zero).ed.length)).drop a=(s.lf.getD i U.zero).ed/\p.ed.length-(s.lf.getD i U.zero).ed.length+(s.rt.getD i U.zero).ed.length<=6 /\
 q=⟨p.st,p.ed.take a++(s.rt.getD i U.zero).ed++p.ed.drop (a+(s.lf.getD i U.zero).ed.length)⟩
theorem Hh{s:aa}(h:s.ok=true){p q:U}{y:Int}{i a:Nat}(hp:s.aO p=some y)(hl:s.gk p i a q):q.st=p.st/\s.aO q=some y:=by
 obtain⟨hi,h1,h2,h3,h4,rfl⟩:=hl;obtain⟨z,e1,e2,e3⟩:=ok_eq h hi;exact⟨rfl,u6 hp e1 e2 e3 h1 h2 rfl h3 h4⟩
inductive aa.eqv(s:aa):U->U->Prop
 | refl {p:U}:s.sp p->s.eqv p p
 | lk {p q:U} {i a:Nat}:s.sp p->s.gk p i a q->s.eqv p q
 | symm {p q:U}:s.eqv p q->s.eqv q p
 | trans {p q r:U}:s.eqv p q->s.eqv q r->s.eqv p r
theorem nB{s:aa}(h:s.ok=true){p q:U}(e:s.eqv p q):p.st=q.st/\s.aO p=s.aO q/\s.sp p/\s.sp q:=by
 induction e with
 | refl hp=>exact⟨rfl,rfl,hp,hp⟩
 | lk hp hl =>
  obtain⟨y,hy⟩:=hp;have:=Hh h hy hl;exact⟨this.1.symm,by rw[hy,this.2],⟨y,hy⟩,⟨y,this.2⟩⟩
 | symm _ ih=>exact⟨ih.1.symm,ih.2.1.symm,ih.2.2.2,ih.2.2.1⟩
 | trans _ _ i1 i2=>exact⟨i1.1.trans i2.1,i1.2.1.trans i2.2.1,i1.2.2.1,i2.2.2.2⟩
def aa.lt(s:aa)(p q:U):Prop:=lexB (fC p (s.en p)) (fC q (s.en q))=true
theorem lt_asymm{s:aa}{p q:U}(h:s.lt p q):¬s.lt q p:=fun h2=>by
 have:=sT h;unfold aa.lt at h2;rw[this] at h2;cases h2
theorem ra{s:aa}{p:U}:¬s.lt p p:=fun h=>lt_asymm h h
theorem lt_eq{s:aa}{p q:U}(h1:¬s.lt p q)(h2:¬s.lt q p):p=q:=by
 unfold aa.lt at h1 h2;rw[Bool.not_eq_true] at h1 h2;have:=Hb h1 h2;unfold fC at this;simp only[List.cons_append,List.nil_append,List.cons.injEq] at this;cases p;cases q;simp only at this;rw[this.1,this.2.2.2]
theorem lt_trans{s:aa}{p q r:U}(h1:s.lt p q)(h2:s.lt q r):s.lt p r:=by
 have a:=sT h1;have b:=sT h2;have c:=vD a b;by_cases h:s.lt p r
 ·exact h
 ·obtain rfl:=lt_eq h (by unfold aa.lt;rw[c];exact Bool.noConfusion)
  exact absurd h1 (lt_asymm h2)
structure aa.cQ(s:aa)(ls:List U):Prop where
 sp:∀p∈ls,s.sp p
 qd:ls.Pairwise s.lt
 min:∀p∈ls,∀q,s.eqv p q->¬s.lt q p
 ex:∀p,s.sp p->∃q∈ls,s.eqv p q
theorem aa.cQ.sub{s:aa}{l m:List U}(h:s.cQ l)(g:s.cQ m):∀p∈l,p∈m:=fun p hp=>by
 obtain⟨q,hq,he⟩:=g.ex p (h.sp p hp)
 rwa [lt_eq (g.min q hq p he.symm) (h.min p hp q he)]
theorem aa.cQ.nodup{s:aa}{l:List U}(h:s.cQ l):l.Nodup:=h.qd.imp fun {a b} hl=>show a≠b from fun e=>ra (e▸hl)
theorem aa.cQ.uniq{s:aa}{l m:List U}(h:s.cQ l)(g:s.cQ m):l=m :=
 ((List.perm_ext_iff_of_nodup h.nodup g.nodup).2 fun p=>⟨h.sub g p,g.sub h p⟩).eq_of_pairwise (fun _ _ _ _ h1 h2=>absurd h1 (lt_asymm h2)) h.qd g.qd
open Classical in
noncomputable def aa.no(s:aa)(ls:List U)(p:U):Int:=if h:∃k:Nat,k<ls.length/\s.eqv p (ls.getD k U.zero) then((Classical.choose h:Nat):Int) else 0
theorem dv{α:Type}{l:List α}{i:Nat}{d:α}(h:i<l.length):l.getD i d∈l:=by rw[aN h];exact List.getElem_mem _
theorem ff{α:Type}{l:List α}{x d:α}(h:x∈l):∃i,i<l.length/\l.getD i d=x:=by
 obtain⟨i,hi,e⟩:=List.getElem_of_mem h;exact⟨i,hi,by rw[aN hi,e]⟩
theorem aa.cQ.inj{s:aa}{ls:List U}(h:s.cQ ls){j k:Nat}(hj:j<ls.length)(hk:k<ls.length)(e:s.eqv (ls.getD j U.zero) (ls.getD k U.zero)):j=k:=by
 have a:=h.min _ (dv hj) _ e;have b:=h.min _ (dv hk) _ e.symm;have c:=lt_eq b a;rw[aN hj,aN hk] at c;exact(List.getElem_inj h.nodup).1 c
theorem aa.cQ.vP{s:aa}{ls:List U}(h:s.cQ ls){p:U}{k:Nat}(hk:k<ls.length)(e:s.eqv p (ls.getD k U.zero)):s.no ls p=k:=by
 have hx:∃k:Nat,k<ls.length/\s.eqv p (ls.getD k U.zero):=⟨k,hk,e⟩;unfold aa.no;rw[dif_pos hx];have:=Classical.choose_spec hx;rw[h.inj this.1 hk (this.2.symm.trans e)]
theorem aa.cQ.HM{s:aa}{ls:List U}(h:s.cQ ls){p:U}(hp:s.sp p):∃k:Nat,s.no ls p=k/\k<ls.length/\s.eqv p (ls.getD k U.zero):=by
 obtain⟨q,hq,he⟩:=h.ex p hp;obtain⟨k,hk,rfl⟩:=ff (d:=U.zero) hq;exact⟨k,h.vP hk he,hk,he⟩
noncomputable def aa.kR(s:aa)(ls:List U)(h e:Int):Int:=s.no ls ⟨(ls.getD h.toNat U.zero).st,(ls.getD h.toNat U.zero).ed++[e]⟩
noncomputable def aa.cmp(s:aa)(ls:List U)(f g:Nat):Int :=
 if s.en (ls.getD f U.zero)=(ls.getD g U.zero).st then(ls.getD g U.zero).ed.foldl (s.kR ls) f else -1
noncomputable def aa.cP(s:aa)(ls:List U):bj :=
 { c:={ ob:=s.nd,fr:=ls.map U.st,to:=ls.map s.en,aU:=(List.range s.nd.toNat).map fun x:Nat=>s.no ls ⟨x,[]⟩,co:=(List.range ls.length).map fun f=>(List.range ls.length).map fun g=>s.cmp ls f g },ls,ed:=(List.range s.fr.length).map fun k:Nat=>s.no ls ⟨s.fr.getD k 0,[(k:Int)]⟩ }
def aa.fits(s:aa):Prop:=∃l:List U,l.Nodup/\dT s l/\l.length<=400
def aa.gC(s:aa)(x:bj):Bool:=x.c.kr&&(dI x.ls.length fun f=>x.arr (x.ls.getD f U.zero) (x.ls.getD f U.zero).ed.length == (f:Int)) &&
 dI s.lf.length fun i=>x.arr (s.lf.getD i U.zero) (s.lf.getD i U.zero).ed.length == x.arr (s.rt.getD i U.zero) (s.rt.getD i U.zero).ed.length
def aa.all(s:aa)(ls:List U):Prop:=(∀p∈ls,p.ed.length<6)/\ls.length<=40/\s.gC (s.cP ls)=true
inductive aa.gA(s:aa):Option bj->Prop
 | many:¬s.fits->s.gA none
 | iA (ls:List U):s.cQ ls->¬s.all ls->s.gA none
 | yes (ls:List U):s.fits->s.cQ ls->s.all ls->s.gA (some (s.cP ls))
theorem gA.uniq{s:aa}{a b:Option bj}(ha:s.gA a)(hb:s.gA b):a=b:=by
 cases ha with
 | many h=>cases hb with
  | many=>rfl
  | iA=>rfl
  | yes _ g=>exact absurd g h
 | iA l hl h=>cases hb with
  | many=>rfl
  | iA=>rfl
  | yes m _ g1 g2=>rw[hl.uniq g1] at h;exact absurd g2 h
 | yes l h1 h2 h3=>cases hb with
  | many g=>exact absurd h1 g
  | iA m g1 g2=>rw[h2.uniq g1] at h3;exact absurd h3 g2
  | yes m g1 g2 g3=>rw[h2.uniq g2]
noncomputable def aa.cO(s:aa):Option bj:=Classical.epsilon s.gA
theorem oo{s:aa}{o:Option bj}(h:s.gA o):s.cO=o:=gA.uniq (Classical.epsilon_spec ⟨o,h⟩) h
end Go.D3
namespace Go.D3
open Go
theorem zw{α:Type}:∀{A B:List α},A.Nodup->(∀x∈A,x∈B)->A.length<=B.length
 | [],_,_,_=>Nat.zero_le _
 | x::A,B,h,hs=>by
  classical
  rw[List.nodup_cons] at h;have hx:=hs x List.mem_cons_self;have:=zw (A:=A) (B:=B.erase x) h.2 fun y hy=>(List.mem_erase_of_ne (show y≠x from fun e=>h.1 (by rw[<-e];exact hy))).2 (hs y (List.mem_cons_of_mem _ hy))
  rw[List.length_erase_of_mem hx] at this;have:=List.length_pos_of_mem hx;rw[List.length_cons];omega
theorem Te{α:Type}{l:List α}{x:α}(h:l.Nodup)(hx:x ∉ l):(l++[x]).Nodup:=by
 rw[List.nodup_append];refine⟨h,by simp,fun a ha b hb=>?_⟩;rw[List.mem_singleton] at hb;rintro rfl;exact hx (hb▸ha)
theorem getD_inj{α:Type}{l:List α}{d:α}(h:l.Nodup){i j:Nat}(hi:i<l.length)(hj:j<l.length)(e:l.getD i d=l.getD j d):i=j:=by
 rw[aN hi,aN hj] at e;exact(List.getElem_inj h).1 e
structure ju(o:List U)(i k:Nat):Prop where
 nd:o.Nodup
 f:∀p∈o,p.ed=[]\/∃j e:Nat,j<o.length/\(j<i\/j=i/\e<k)/\p=⟨(o.getD j U.zero).st,(o.getD j U.zero).ed++[(e:Int)]⟩
theorem ju.zero{n:Nat}:ju (iY n) 0 0:=by
 refine⟨?_,fun p hp=>.inl ?_⟩
 ·unfold iY
  rw[List.nodup_iff_pairwise_ne,List.pairwise_map];refine List.pairwise_lt_range.imp fun {a b} h e=>?_
  injection e with e
  omega
 ·obtain⟨x,_,rfl⟩:=List.mem_map.1 hp;rfl
theorem ju.mono{o:List U}{i k i' k':Nat}(h:ju o i k)(hi:i<i'\/i=i'/\k<=k'):ju o i' k':=by
 refine⟨h.nd,fun p hp=>?_⟩;rcases h.f p hp with h1 | ⟨j,e,h1,h2,h3⟩
 ·exact .inl h1
 ·exact .inr ⟨j,e,h1,by omega,h3⟩
theorem ju.add{o:List U}{i k:Nat}(h:ju o i k)(hi:i<o.length):ju (o++[⟨(o.getD i U.zero).st,(o.getD i U.zero).ed++[(k:Int)]⟩]) i (k+1):=by
 have hg:∀{j},j<o.length->(o++[(⟨(o.getD i U.zero).st,(o.getD i U.zero).ed++[(k:Int)]⟩:U)]).getD j U.zero=o.getD j U.zero:=fun hj=>by rw[gL (by omega),if_neg (by omega)]
 refine⟨Te h.nd fun hm=>?_,fun p hp=>?_⟩
 ·rcases h.f _ hm with h1 | ⟨j,e,h1,h2,h3⟩
  ·simp at h1
  ·injection h3 with h3 h4
   have h5:=List.append_inj_left' h4 rfl;have h6:=List.append_inj_right' h4 rfl
   have:o.getD i U.zero=o.getD j U.zero:=by
    cases hx:o.getD i U.zero;cases hy:o.getD j U.zero;rw[hx,hy] at h3 h5;simp only at h3 h5;rw[h3,h5]
   have:=getD_inj h.nd hi h1 this;simp at h6;omega
 ·rcases List.mem_append.1 hp with hp | hp
  ·rcases h.f p hp with h1 | ⟨j,e,h1,h2,h3⟩
   ·exact .inl h1
   ·exact .inr ⟨j,e,by rw[List.length_append];omega,by omega,by rw[hg h1];exact h3⟩
  ·rw[List.mem_singleton] at hp
   exact .inr ⟨i,k,by rw[List.length_append];omega,.inr ⟨rfl,by omega⟩,by rw[hg hi];exact hp⟩
theorem HR{s:aa}{o:List U}(hn:o.Nodup)(hv:∀p∈o,∃y,s.aO p=some y)(hl : 400<o.length):¬s.fits:=fun⟨m,_,hA,hm⟩=>by
 have:=zw hn fun p hp=>by obtain⟨y,hy⟩:=hv p hp;exact hA.a p y hy
 omega
theorem aa.cQ.of{s:aa}(h:s.ok=true){list:List U}(hA:dT s list)(hs:list.Pairwise s.lt):∃ls,s.cQ ls:=by
 classical
 refine⟨list.filter fun p=>decide (∀q,s.eqv p q->¬s.lt q p),fun p hp=>?_,hs.filter _,fun p hp=>?_,fun p hp=>?_⟩
 ·exact hA.v p (List.mem_filter.1 hp).1
 ·simpa using(List.mem_filter.1 hp).2
 ·
  obtain⟨y,hy⟩:=hp;have hm:=hA.a p y hy;have hx:list.findIdx (fun q=>decide (s.eqv p q))<list.length:=List.findIdx_lt_length_of_exists ⟨p,hm,by simpa using aa.eqv.refl ⟨y,hy⟩⟩;have he:=List.findIdx_getElem (w:=hx);have he:s.eqv p list[list.findIdx fun q=>decide (s.eqv p q)]:=by simpa using he
  refine⟨_,List.mem_filter.2 ⟨List.getElem_mem hx,?_⟩,he⟩;simp only[decide_eq_true_eq];intro q hq hlt;obtain⟨z,hz⟩:=(nB h hq).2.2.2;obtain⟨j,hj,rfl⟩:=List.getElem_of_mem (hA.a q z hz)
  have hne:¬j<list.findIdx fun q=>decide (s.eqv p q):=fun hh=>by
   have:=List.not_of_lt_findIdx hh;rw[decide_eq_false_iff_not] at this;exact this (he.trans hq)
  by_cases hjj:j=list.findIdx fun q=>decide (s.eqv p q)
  ·subst hjj;exact ra hlt
  ·exact lt_asymm hlt ((List.pairwise_iff_getElem.1 hs) _ _ hx hj (by omega))
theorem MG{s:aa}{o:List U}(hn:o.Nodup)(h:o.Pairwise fun p q=>¬s.lt q p):o.Pairwise s.lt:=by
 refine(List.Pairwise.and hn h).imp fun {a b} hh=>?_
 by_cases hl:s.lt a b
 ·exact hl
 ·exact absurd (lt_eq hl hh.2) hh.1
theorem aa.cQ.Mu{s:aa}(h:s.ok=true){o:List U}(hn:o.Nodup)(hA:dT s o):∃ls,s.cQ ls:=by
 have hp:=List.mergeSort_perm o fun p q=>!lexB (fC q (s.en q)) (fC p (s.en p))
 refine aa.cQ.of h (hA.perm hp) (MG (hp.nodup_iff.2 hn) ?_);refine(List.pairwise_mergeSort (le:=fun p q=>!lexB (fC q (s.en q)) (fC p (s.en p))) (fun a b c h1 h2=>?_) (fun a b=>?_) o).imp fun {a b} hh hl=>?_
 ·simp only[Bool.not_eq_true'] at h1 h2|-;exact vD h1 h2
 ·cases hh:lexB (fC b (s.en b)) (fC a (s.en a))
  ·simp
  ·simp[sT hh]
 ·unfold aa.lt at hl;rw[hl] at hh;cases hh
structure eI(s:aa)(list:List U)(P:List (List Int))(w i a:Nat):Prop where
 v:∀p∈P,∃x y i' a':Nat,p=[(x:Int),(y:Int)]/\x<list.length/\y<list.length/\s.gk (list.getD x U.zero) i' a' (list.getD y U.zero)
 c:∀(x i' a':Nat)(q:U),x<list.length->(x<w\/x=w/\(i'<i\/i'=i/\a'<a))->s.gk (list.getD x U.zero) i' a' q->∃y:Nat,y<list.length/\list.getD y U.zero=q/\[(x:Int),(y:Int)]∈P
theorem eI.zero{s:aa}{list:List U}:eI s list [] 0 0 0:=⟨fun p hp=>(by cases hp),fun x i' a' q _ h=>by omega⟩
theorem eI.ok{s:aa}(h:s.ok=true){list:List U}(hA:dT s list){P:List (List Int)}{w i a:Nat}(hx:eI s list P w i a):ni s list P:=fun p hp=>by
 obtain⟨x,y,i',a',h1,h2,h3,h4⟩:=hx.v p hp;obtain⟨z,hz⟩:=hA.at' h2;have:=Hh h hz h4;exact⟨x,y,h1,h2,h3,this.1.symm,by rw[hz,this.2]⟩
theorem eI.skip{s:aa}{list:List U}{P:List (List Int)}{w i a:Nat}(h:eI s list P w i a)(hn:∀q,¬s.gk (list.getD w U.zero) i a q):eI s list P w i (a+1) :=
 ⟨h.v,fun x i' a' q hx hc hl=>by
  by_cases he:x=w/\i'=i/\a'=a
  ·obtain⟨rfl,rfl,rfl⟩:=he;exact absurd hl (hn q)
  ·exact h.c x i' a' q hx (by omega) hl⟩
theorem eI.zr{s:aa}{list:List U}{P:List (List Int)}{w i a:Nat}(h:eI s list P w i a)(hn:(list.getD w U.zero).ed.length<a+(s.lf.getD i U.zero).ed.length):eI s list P w (i+1) 0 :=
 ⟨h.v,fun x i' a' q hx hc hl=>by
  by_cases he:x=w/\i'=i/\a<=a'
  ·obtain⟨rfl,rfl,ha⟩:=he
   have:=hl.2.1;omega
  ·exact h.c x i' a' q hx (by omega) hl⟩
theorem eI.zt{s:aa}{list:List U}{P:List (List Int)}{w i a:Nat}(h:eI s list P w i a)(hn:s.lf.length<=i):eI s list P (w+1) 0 0 :=
 ⟨h.v,fun x i' a' q hx hc hl=>by
  by_cases he:x=w/\i<=i'
  ·have:=hl.1;omega
  ·exact h.c x i' a' q hx (by omega) hl⟩
theorem eI.add{s:aa}{list:List U}{P:List (List Int)}{w i a y:Nat}(h:eI s list P w i a)(hw:w<list.length)(hy:y<list.length)(hl:s.gk (list.getD w U.zero) i a (list.getD y U.zero)):eI s list (P++[[(w:Int),(y:Int)]]) w i (a+1):=by
 refine⟨fun p hp=>?_,fun x i' a' q hx hc hl'=>?_⟩
 ·rcases List.mem_append.1 hp with hp | hp
  ·exact h.v p hp
  ·rw[List.mem_singleton] at hp;exact⟨w,y,i,a,hp,hw,hy,hl⟩
 ·by_cases he:x=w/\i'=i/\a'=a
  ·obtain⟨rfl,rfl,rfl⟩:=he
   exact⟨y,hy,by rw[hl.2.2.2.2.2,hl'.2.2.2.2.2],by simp⟩
  ·obtain⟨z,z1,z2,z3⟩:=h.c x i' a' q hx (by omega) hl'
   exact⟨z,z1,z2,List.mem_append_left _ z3⟩
structure iH(s:aa)(list:List U)(cl:List Int):Prop where
 len:cl.length=list.length
 ge:∀i,i<list.length->0<=cl.getD i 0/\cl.getD i 0<list.length
 eq:∀i j,i<list.length->j<list.length->(cl.getD i 0=cl.getD j 0↔s.eqv (list.getD i U.zero) (list.getD j U.zero))
theorem FQ{s:aa}{φ:U->Int}(hφ:∀p i a q,s.sp p->s.gk p i a q->φ p=φ q){p q:U}(e:s.eqv p q):φ p=φ q:=by
 induction e with
 | refl=>rfl
 | lk hp hl=>exact hφ _ _ _ _ hp hl
 | symm _ ih=>exact ih.symm
 | trans _ _ i1 i2=>exact i1.trans i2
theorem Pu{s:aa}{p q:U}(e:s.eqv p q):s.eqv p=s.eqv q:=funext fun _=>propext ⟨e.symm.trans,e.trans⟩
end Go.D3
namespace Go.D3
open Go
theorem og{l:List U}(hn:l.Nodup){j:Nat}(hj:j<l.length):mH l (l.getD j U.zero).st (l.getD j U.zero).ed=j:=by
 obtain⟨k,h1,h2,h3⟩:=tu (l:=l) (x:=(l.getD j U.zero).st) (ed:=(l.getD j U.zero).ed) (dv hj);have:l.getD k U.zero=l.getD j U.zero:=by rw[h3]
 rw[h1,getD_inj hn h2 hj this]
theorem iH.Tq{s:aa}(h:s.ok=true){list:List U}(hA:dT s list)(hn:list.Nodup){P:List (List Int)}(hP:eI s list P list.length 0 0){cl:List Int}(hj:ng (cF (bB list.length) P) cl):iH s list cl:=by
 have hl:(cF (bB list.length) P).length=list.length:=by rw[sQ,eE]
 have hc:=(hP.ok h hA).cls hj;refine⟨hc.len,hc.ge,fun i j hi hj'=>⟨fun e=>?_,fun e=>?_⟩⟩
 ·have:=hj.same (fun i=>s.eqv (list.getD i U.zero)) (fun p hp=>by
   obtain⟨x,y,i',a',h1,h2,h3,h4⟩:=hP.v p hp
   exact⟨x,y,h2,h3,by rw[h1];rfl,by rw[h1];rfl,Pu (.lk (hA.at' h2) h4)⟩) hi hj' e
  exact(show s.eqv _=s.eqv _ from this)▸aa.eqv.refl (hA.at' hj')
 ·have:=FQ (s:=s) (φ:=fun p=>cl.getD (mH list p.st p.ed).toNat 0) (fun p i a q hp hl'=>by
   obtain⟨y,hy⟩:=hp;obtain⟨x,hx,rfl⟩:=ff (d:=U.zero) (hA.a p y hy);obtain⟨z,z1,rfl,z2⟩:=hP.c x i a q hx (.inl hx) hl';show cl.getD _ 0=cl.getD _ 0;rw[og hn hx,og hn z1,Int.toNat_natCast,Int.toNat_natCast,hj.eq x z (by omega) (by omega)]
   exact Qu z2 rfl rfl (by rw[eE];exact hx) (by rw[eE];exact z1)) e
  simp only[og hn hi,og hn hj',Int.toNat_natCast] at this;exact this
structure gb(s:aa)(list:List U)(cl:List Int)(i:Nat)(ls:List U):Prop where
 lt:∀j,j<i->cl.getD j 0<ls.length
 ex:∀k:Nat,k<ls.length->∃j,j<i/\j<list.length/\cl.getD j 0=k/\ls.getD k U.zero=list.getD j U.zero/\∀j',j'<j->cl.getD j' 0<k
theorem gb.zero{s:aa}{list:List U}{cl:List Int}:gb s list cl 0 []:=⟨fun _ hj=>absurd hj (Nat.not_lt_zero _),fun _ hk=>absurd hk (Nat.not_lt_zero _)⟩
theorem gb.old{s:aa}{list:List U}{cl:List Int}{i:Nat}{ls:List U}(hf:∀(m:Nat),(∀q,q<i->cl.getD q 0<m)->cl.getD i 0<=m)(h:gb s list cl i ls)(hn:cl.getD i 0≠ls.length):gb s list cl (i+1) ls:=by
 refine⟨fun j hj=>?_,fun k hk=>?_⟩
 ·by_cases hji:j<i
  ·exact h.lt j hji
  ·rw[show j=i by omega]
   have:=hf ls.length h.lt;omega
 ·obtain⟨j,h1,h2⟩:=h.ex k hk
  exact⟨j,by omega,h2⟩
theorem gb.new{s:aa}{list:List U}{cl:List Int}{i:Nat}{ls:List U}(h:gb s list cl i ls)(hi:i<list.length)(he:cl.getD i 0=ls.length):gb s list cl (i+1) (ls++[list.getD i U.zero]):=by
 have hlt:∀{k},k<ls.length->(ls++[list.getD i U.zero]).getD k U.zero=ls.getD k U.zero:=fun hk=>by rw[gL (by omega),if_neg (by omega)]
 have hel:(ls++[list.getD i U.zero]).getD ls.length U.zero=list.getD i U.zero:=by rw[gL (Nat.le_refl _),if_pos rfl]
 refine⟨fun j hj=>?_,fun k hk=>?_⟩
 ·rw[List.length_append,List.length_singleton]
  by_cases hji:j<i
  ·have:=h.lt j hji;omega
  ·rw[show j=i by omega];omega
 ·rw[List.length_append,List.length_singleton] at hk
  by_cases hkl:k<ls.length
  ·obtain⟨j,h1,h2,h3,h4,h5⟩:=h.ex k hkl
   exact⟨j,by omega,h2,h3,by rw[hlt hkl,h4],h5⟩
  ·obtain rfl:k=ls.length:=by omega
   exact⟨i,by omega,hi,he,hel,fun j' hj'=>h.lt j' hj'⟩
theorem gb.done{s:aa}(hok:s.ok=true){list:List U}(hA:dT s list)(hs:list.Pairwise s.lt){cl:List Int}(hc:iH s list cl){ls:List U}(h:gb s list cl list.length ls):s.cQ ls:=by
 have hp:=List.pairwise_iff_getElem.1 hs;refine⟨fun p hp=>?_,?_,fun p hp' q he hlt=>?_,fun p hp'=>?_⟩
 ·obtain⟨k,hk,rfl⟩:=ff (d:=U.zero) hp
  obtain⟨j,_,h2,_,h4,_⟩:=h.ex k hk;rw[h4];exact hA.at' h2
 ·refine List.pairwise_iff_getElem.2 fun i j hi hj hij=>?_
  obtain⟨a,_,a2,a3,a4,a5⟩:=h.ex i hi;obtain⟨b,_,b2,b3,b4,b5⟩:=h.ex j hj;rw[<-aN (d:=U.zero) hi,<-aN (d:=U.zero) hj,a4,b4,aN a2,aN b2];refine hp a b a2 b2 ?_;by_cases hab:b<a
  ·have:=a5 b hab;omega
  ·by_cases hab2:a=b
   ·subst hab2;omega
   ·omega
 ·obtain⟨k,hk,rfl⟩:=ff (d:=U.zero) hp'
  obtain⟨a,_,a2,a3,a4,a5⟩:=h.ex k hk;obtain⟨y,hy⟩:=(nB hok he).2.2.2;obtain⟨b,hb,rfl⟩:=ff (d:=U.zero) (hA.a q y hy);rw[a4] at he hlt;have e:=(hc.eq a b a2 hb).2 he;by_cases hab:b<a
  ·have:=a5 b hab;omega
  ·by_cases hab2:a=b
   ·subst hab2;exact ra hlt
   ·refine lt_asymm hlt ?_
    rw[aN a2,aN hb];exact hp a b a2 hb (by omega)
 ·obtain⟨y,hy⟩:=hp'
  obtain⟨b,hb,rfl⟩:=ff (d:=U.zero) (hA.a p y hy);have h1:=h.lt b hb;have h2:=(hc.ge b hb).1;obtain⟨a,_,a2,a3,a4,_⟩:=h.ex (cl.getD b 0).toNat (by omega);refine⟨_,dv (i:=(cl.getD b 0).toNat) (d:=U.zero) (by omega),?_⟩;rw[a4];exact(hc.eq b a hb a2).1 (by omega)
theorem gb.ib{s:aa}(hok:s.ok=true){list:List U}(hA:dT s list)(hs:list.Pairwise s.lt){cl:List Int}(hc:iH s list cl){i:Nat}{ls:List U}(h:gb s list cl i ls)(hi:i<list.length)(he:cl.getD i 0=ls.length)(h6:¬(list.getD i U.zero).ed.length<6):s.gA none:=by
 obtain⟨m,hm⟩:=aa.cQ.of hok hA hs;refine .iA m hm fun ha=>?_
 obtain⟨q,hq,hqe⟩:=hm.ex _ (hA.at' hi);refine h6 ?_;have hp:=List.pairwise_iff_getElem.1 hs
 have:list.getD i U.zero=q:=by
  refine lt_eq (hm.min q hq _ hqe.symm) fun hlt=>?_
  obtain⟨y,hy⟩:=(nB hok hqe).2.2.2;obtain⟨b,hb,rfl⟩:=ff (d:=U.zero) (hA.a q y hy);have e:=(hc.eq i b hi hb).2 hqe;by_cases hb2:b<i
  ·have:=h.lt b hb2;omega
  ·by_cases hb3:i=b
   ·subst hb3;exact ra hlt
   ·refine lt_asymm hlt ?_
    rw[aN hi,aN hb];exact hp i b hi hb (by omega)
 rw[this];exact ha.1 q hq
theorem gb.no{s:aa}(hok:s.ok=true){list:List U}(hA:dT s list)(hs:list.Pairwise s.lt){cl:List Int}(hc:iH s list cl){ls:List U}(h:gb s list cl list.length ls){x:Int}{ed:List Int}{y:Int}(hy:s.aO ⟨x,ed⟩=some y) :
  ∃j k:Nat,mH list x ed=j/\j<cl.length/\cl.getD j 0=k/\k<ls.length/\s.no ls ⟨x,ed⟩=k/\(ls.getD k U.zero).st=x/\s.aO (ls.getD k U.zero)=some y:=by
 obtain⟨j,h1,h2,h3⟩:=tu (hA.a _ _ hy);have h4:=(hc.ge j h2).1;have h5:=h.lt j h2;obtain⟨k,hk⟩:∃k:Nat,cl.getD j 0=k:=⟨(cl.getD j 0).toNat,by omega⟩;obtain⟨a,_,a2,a3,a4,_⟩:=h.ex k (by omega);have he:=(hc.eq j a h2 a2).1 (by omega);rw[h3] at he;rw[<-a4] at he;have hE:=nB hok he;exact⟨j,k,h1,by rw[hc.len];exact h2,hk,by omega,(h.done hok hA hs hc).vP (by omega) he,hE.1.symm,by rw[<-hE.2.1,hy]⟩
theorem R2{s:aa}{p q r:U}(h1:¬s.lt q p)(h2:¬s.lt r q):¬s.lt r p:=fun h=>by
 unfold aa.lt at h h1 h2;rw[Bool.not_eq_true] at h1 h2;rw[vD h1 h2] at h;cases h
theorem MK{o:List U}{k:Nat}(hk0 : 0<k)(hk:k<o.length)(q:Nat):(oI o k).getD q U.zero=if q=k-1 then o.getD k U.zero else if q=k then o.getD (k-1) U.zero else o.getD q U.zero:=by
 unfold oI;have gs:∀{L:List U}{j:Nat}{x:U},j<L.length->(L.set j x).getD j U.zero=x:=fun h=>by rw[List.getD_eq_getElem?_getD,List.getElem?_set_self h];rfl
 have gn:∀{L:List U}{j q:Nat}{x:U},q≠j->(L.set j x).getD q U.zero=L.getD q U.zero:=fun h=>by rw[List.getD_eq_getElem?_getD,List.getElem?_set_ne (Ne.symm h),List.getD_eq_getElem?_getD]
 by_cases h1:q=k-1
 ·subst h1;rw[if_pos rfl,gs (by rw[List.length_set];omega)]
 ·rw[if_neg h1,gn h1]
  by_cases h2:q=k
  ·subst h2;rw[if_pos rfl,gs hk]
  ·rw[if_neg h2,gn h2]
theorem aay{s:aa}{o:List U}{k i:Nat}(hk0 : 0<k)(hk:k<o.length)(hlx:s.lt (o.getD k U.zero) (o.getD (k-1) U.zero))
  (hs:∀(p q:Nat),p<q->q<=i->q≠k->¬s.lt (o.getD q U.zero) (o.getD p U.zero)) (p q:Nat) (hpq:p<q) (hq:q<=i) (hqk:q≠k-1):¬s.lt ((oI o k).getD q U.zero) ((oI o k).getD p U.zero):=by
 rw[MK hk0 hk,MK hk0 hk,if_neg hqk];by_cases h1:q=k
 ·rw[if_pos h1]
  by_cases h2:p=k-1
  ·rw[if_pos h2];exact lt_asymm hlx
  ·rw[if_neg h2,if_neg (by omega)];exact hs p (k-1) (by omega) (by omega) (by omega)
 ·rw[if_neg h1]
  by_cases h2:p=k-1
  ·rw[if_pos h2];exact hs k q (by omega) hq h1
  ·rw[if_neg h2]
   by_cases h3:p=k
   ·rw[if_pos h3];exact hs (k-1) q (by omega) hq h1
   ·rw[if_neg h3];exact hs p q hpq hq h1
end Go.D3
