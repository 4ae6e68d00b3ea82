/- CONTRACTS: data of schemas, the program's side: rows, what edges lead to, copies. -/
import Derived.Test.YtpnchponfnbmiaaGreatDoorHG
import Derived.Test.YtpnchponfnbmiaaGreatDoorProg
namespace Go.D3
open Go
set_option maxHeartbeats 4000000
set_option maxRecDepth 100000
structure bu where
 kd:Int
 fi:Int
 se:Int
 th:Int
def bu.cells(x:bu):List D:=[.int .i64 x.kd,.int .i64 x.fi,.int .i64 x.se,.int .i64 x.th]
def bu.d(x:bu):D:=.agg x.cells
def bu.zero:bu:=⟨0,0,0,0⟩
def bu.cost(_:bu):Nat:=0
theorem SQ:D.slice (.agg [.int .i64 0,.int .i64 0,.int .i64 0,.int .i64 0]) []=U bu.d bu.zero []:=rfl
theorem Qs{n:Nat}:D.slice (.agg [.int .i64 0,.int .i64 0,.int .i64 0,.int .i64 0]) (List.replicate n (.agg [.int .i64 0,.int .i64 0,.int .i64 0,.int .i64 0]))=U bu.d bu.zero (List.replicate n bu.zero):=by unfold U;rw[List.map_replicate];rfl
theorem Sp{l:List bu}{i:Nat}{kd:Int}{fi:Int}{se:Int}{th:Int}:cY (.o (U bu.d bu.zero l)) [(i,0)] 0 [.int .i64 kd,.int .i64 fi,.int .i64 se,.int .i64 th]=.o (U bu.d bu.zero (l.set i ⟨kd,fi,se,th⟩)):=mi (n:=4) (fun _=>⟨_,rfl,rfl⟩) rfl
attribute [go_sem] bu.cells.eq_1 bu.d.eq_1 SQ Qs
theorem IB{l:List bu}{kd:Int}{fi:Int}{se:Int}{th:Int}:(U bu.d bu.zero l).c6 [.agg [.int .i64 kd,.int .i64 fi,.int .i64 se,.int .i64 th]]=U bu.d bu.zero (l++[⟨kd,fi,se,th⟩]):=kE (f:=bu.d) (x:=⟨kd,fi,se,th⟩)
attribute [go_sem high] Sp IB
structure Pth where
 st:Int
 ed:List (Int)
def Pth.cells(x:Pth):List D:=[.int .i64 x.st,ints x.ed]
def Pth.d(x:Pth):D:=.agg x.cells
def Pth.zero:Pth:=⟨0,[]⟩
def Pth.cost(x:Pth):Nat:=x.ed.length
theorem SV:D.slice (.agg [.int .i64 0,ints []]) []=U Pth.d Pth.zero []:=rfl
theorem Qw{n:Nat}:D.slice (.agg [.int .i64 0,ints []]) (List.replicate n (.agg [.int .i64 0,ints []]))=U Pth.d Pth.zero (List.replicate n Pth.zero):=by unfold U;rw[List.map_replicate];rfl
theorem Su{l:List Pth}{i:Nat}{st:Int}{ed:List (Int)}:cY (.o (U Pth.d Pth.zero l)) [(i,0)] 0 [.int .i64 st,ints ed]=.o (U Pth.d Pth.zero (l.set i ⟨st,ed⟩)):=mi (n:=2) (fun _=>⟨_,rfl,rfl⟩) rfl
attribute [go_sem] Pth.cells.eq_1 Pth.d.eq_1 SV Qw
theorem IF{l:List Pth}{st:Int}{ed:List (Int)}:(U Pth.d Pth.zero l).c6 [.agg [.int .i64 st,ints ed]]=U Pth.d Pth.zero (l++[⟨st,ed⟩]):=kE (f:=Pth.d) (x:=⟨st,ed⟩)
attribute [go_sem high] Su IF
theorem ph(x:Pth):x.d.bd=true:=by simp only[Pth.d,Pth.cells,D.bd,dU,bL,Bool.and_self]
structure Sch where
 nd:Int
 fr:List (Int)
 to:List (Int)
 lf:List (Pth)
 rt:List (Pth)
def Sch.cells(x:Sch):List D:=[.int .i64 x.nd,ints x.fr,ints x.to,U Pth.d Pth.zero x.lf,U Pth.d Pth.zero x.rt]
def Sch.d(x:Sch):D:=.agg x.cells
def Sch.zero:Sch:=⟨0,[],[],[],[]⟩
def Sch.cost(x:Sch):Nat:=x.fr.length+x.to.length+cN Pth.cost x.lf+cN Pth.cost x.rt
theorem SX:D.slice (.agg [.int .i64 0,ints [],ints [],U Pth.d Pth.zero [],U Pth.d Pth.zero []]) []=U Sch.d Sch.zero []:=rfl
theorem Qx{n:Nat}:D.slice (.agg [.int .i64 0,ints [],ints [],U Pth.d Pth.zero [],U Pth.d Pth.zero []]) (List.replicate n (.agg [.int .i64 0,ints [],ints [],U Pth.d Pth.zero [],U Pth.d Pth.zero []]))=U Sch.d Sch.zero (List.replicate n Sch.zero):=by unfold U;rw[List.map_replicate];rfl
theorem Sv{l:List Sch}{i:Nat}{nd:Int}{fr:List (Int)}{to:List (Int)}{lf:List (Pth)}{rt:List (Pth)}:cY (.o (U Sch.d Sch.zero l)) [(i,0)] 0 [.int .i64 nd,ints fr,ints to,U Pth.d Pth.zero lf,U Pth.d Pth.zero rt]=.o (U Sch.d Sch.zero (l.set i ⟨nd,fr,to,lf,rt⟩)):=mi (n:=5) (fun _=>⟨_,rfl,rfl⟩) rfl
attribute [go_sem] Sch.cells.eq_1 Sch.d.eq_1 SX Qx
theorem IG{l:List Sch}{nd:Int}{fr:List (Int)}{to:List (Int)}{lf:List (Pth)}{rt:List (Pth)}:(U Sch.d Sch.zero l).c6 [.agg [.int .i64 nd,ints fr,ints to,U Pth.d Pth.zero lf,U Pth.d Pth.zero rt]]=U Sch.d Sch.zero (l++[⟨nd,fr,to,lf,rt⟩]):=kE (f:=Sch.d) (x:=⟨nd,fr,to,lf,rt⟩)
attribute [go_sem high] Sv IG
theorem DE(x:Sch):x.d.bd=true:=by simp only[Sch.d,Sch.cells,D.bd,dU,bL,jP ph,Bool.and_self]
structure bf where
 sz:List (Int)
 mp:List (List (Int))
def bf.cells(x:bf):List D:=[ints x.sz,aO x.mp]
def bf.d(x:bf):D:=.agg x.cells
def bf.zero:bf:=⟨[],[]⟩
def bf.cost(x:bf):Nat:=x.sz.length+cN List.length x.mp
theorem SR:D.slice (.agg [ints [],aO []]) []=U bf.d bf.zero []:=rfl
theorem Qt{n:Nat}:D.slice (.agg [ints [],aO []]) (List.replicate n (.agg [ints [],aO []]))=U bf.d bf.zero (List.replicate n bf.zero):=by unfold U;rw[List.map_replicate];rfl
theorem Sq{l:List bf}{i:Nat}{sz:List (Int)}{mp:List (List (Int))}:cY (.o (U bf.d bf.zero l)) [(i,0)] 0 [ints sz,aO mp]=.o (U bf.d bf.zero (l.set i ⟨sz,mp⟩)):=mi (n:=2) (fun _=>⟨_,rfl,rfl⟩) rfl
attribute [go_sem] bf.cells.eq_1 bf.d.eq_1 SR Qt
theorem IC{l:List bf}{sz:List (Int)}{mp:List (List (Int))}:(U bf.d bf.zero l).c6 [.agg [ints sz,aO mp]]=U bf.d bf.zero (l++[⟨sz,mp⟩]):=kE (f:=bf.d) (x:=⟨sz,mp⟩)
attribute [go_sem high] Sq IC
structure cZ where
 sc:Sch
 dt:List (bf)
 tx:List (List (bu))
 gd:Int
def cZ.cells(x:cZ):List D:=[.int .i64 x.sc.nd,ints x.sc.fr,ints x.sc.to,U Pth.d Pth.zero x.sc.lf,U Pth.d Pth.zero x.sc.rt,U bf.d bf.zero x.dt,U (U bu.d bu.zero) [] x.tx,.int .i64 x.gd]
def cZ.d(x:cZ):D:=.agg x.cells
def cZ.zero:cZ:=⟨Sch.zero,[],[],0⟩
def cZ.cost(x:cZ):Nat:=Sch.cost x.sc+cN bf.cost x.dt+cN (cN bu.cost) x.tx
theorem SU:D.slice (.agg [.int .i64 0,ints [],ints [],U Pth.d Pth.zero [],U Pth.d Pth.zero [],U bf.d bf.zero [],U (U bu.d bu.zero) [] [],.int .i64 0]) []=U cZ.d cZ.zero []:=rfl
theorem Qv{n:Nat}:D.slice (.agg [.int .i64 0,ints [],ints [],U Pth.d Pth.zero [],U Pth.d Pth.zero [],U bf.d bf.zero [],U (U bu.d bu.zero) [] [],.int .i64 0]) (List.replicate n (.agg [.int .i64 0,ints [],ints [],U Pth.d Pth.zero [],U Pth.d Pth.zero [],U bf.d bf.zero [],U (U bu.d bu.zero) [] [],.int .i64 0]))=U cZ.d cZ.zero (List.replicate n cZ.zero):=by unfold U;rw[List.map_replicate];rfl
theorem Ss{l:List cZ}{i:Nat}{scnd:Int}{scfr:List (Int)}{scto:List (Int)}{sclf:List (Pth)}{scrt:List (Pth)}{dt:List (bf)}{tx:List (List (bu))}{gd:Int}:cY (.o (U cZ.d cZ.zero l)) [(i,0)] 0 [.int .i64 scnd,ints scfr,ints scto,U Pth.d Pth.zero sclf,U Pth.d Pth.zero scrt,U bf.d bf.zero dt,U (U bu.d bu.zero) [] tx,.int .i64 gd]=.o (U cZ.d cZ.zero (l.set i ⟨⟨scnd,scfr,scto,sclf,scrt⟩,dt,tx,gd⟩)):=mi (n:=8) (fun _=>⟨_,rfl,rfl⟩) rfl
attribute [go_sem] cZ.cells.eq_1 cZ.d.eq_1 SU Qv
theorem IE{l:List cZ}{scnd:Int}{scfr:List (Int)}{scto:List (Int)}{sclf:List (Pth)}{scrt:List (Pth)}{dt:List (bf)}{tx:List (List (bu))}{gd:Int}:(U cZ.d cZ.zero l).c6 [.agg [.int .i64 scnd,ints scfr,ints scto,U Pth.d Pth.zero sclf,U Pth.d Pth.zero scrt,U bf.d bf.zero dt,U (U bu.d bu.zero) [] tx,.int .i64 gd]]=U cZ.d cZ.zero (l++[⟨⟨scnd,scfr,scto,sclf,scrt⟩,dt,tx,gd⟩]):=kE (f:=cZ.d) (x:=⟨⟨scnd,scfr,scto,sclf,scrt⟩,dt,tx,gd⟩)
attribute [go_sem high] Ss IE
def bm(n lo hi:Int):Bool:=decide (lo<=n)&&decide (n<=hi)
def cL(n:Int)(f:List Int):Bool:=f.all fun y=>decide (0<=y)&&decide (y<n)
def Aa:List Nat:=[0,1,2,6]
def GX:Sl:=ae Go.Proofs.Tryz.types Go.Proofs.Tryz.f112 Aa []
theorem OC:aD Go.Proofs.Tryz.prog Go.Proofs.Tryz.f112 Aa GX 3=true:=by decide +kernel
theorem xK(n lo hi:Int):al Go.Proofs.Tryz.prog 112 [.v (.int .i64 n),.v (.int .i64 lo),.v (.int .i64 hi)] (.bool (bm n lo hi)):=by
 unfold bm;refine aA Go.Proofs.Tryz.func112 OC ?_;unfold GX ae Aa;simp only[go_sem]
def y9:List Nat:=[0,1,2,6]
def F3:Sl:=ae Go.Proofs.Tryz.types Go.Proofs.Tryz.f113 y9 []
theorem NI:aD Go.Proofs.Tryz.prog Go.Proofs.Tryz.f113 y9 F3 3=true:=by decide +kernel
theorem pC[Mode](n lo hi:Int):al Go.Proofs.Tryz.prog 113 [.v (.int .i64 n),.v (.int .i64 lo),.v (.int .i64 hi)] (.bool (bm n lo hi)):=by
 unfold bm;refine aA Go.Proofs.Tryz.func113 NI ?_;unfold F3 ae y9;simp only[go_sem]
def Ae:List Nat:=[0,1,4,5]
def G5:Sl:=ae Go.Proofs.Tryz.types Go.Proofs.Tryz.f80 Ae []
theorem OG:aD Go.Proofs.Tryz.prog Go.Proofs.Tryz.f80 Ae G5 2=true:=by decide +kernel
theorem pG(n:Int)(f:List Int):al Go.Proofs.Tryz.prog 80 [.v (.int .i64 n),.v (ints f)] (.bool (cL n f)):=by
 refine eI fun hw=>?_
 simp only[c7,eL] at hw;obtain⟨-,⟨hw,-⟩,-⟩:=hw;refine aA Go.Proofs.Tryz.func80 OG ?_;unfold G5 ae Ae;simp only[go_sem];refine aI [] (fun(i:Nat)=>[(3,.int .i64 i)]) (fun i=>i<=f.length/\cL n (f.take i)=true) (fun i=>f.length-i) 0 rfl ⟨Nat.zero_le _,rfl⟩ rfl ?_;rintro i ⟨hi,ha⟩;simp only[go_sem]
 (repeat'(first | (refine And.intro ?_ ?_) | intro))<;>(try(first | trivial | assumption | omega | (simp_all;done) | (simp_all;omega)))
 ·rename_i h1 h2
  symm;refine AV (d:=0) h1 ?_;simp only[Bool.or_eq_true,decide_eq_true_eq] at h2;simp only[Bool.and_eq_false_iff,decide_eq_false_iff_not];omega
 ·rename_i h1 h2
  simp only[Bool.or_eq_false_iff,decide_eq_false_iff_not] at h2;exact⟨i+1,⟨by omega,AU (d:=0) h1 ha (by simp only[Bool.and_eq_true,decide_eq_true_eq];omega)⟩,by omega,by rw[aH h1 hw]⟩
 ·rename_i h1
  exact(AT (by omega) ha).symm
def zt:List Nat:=[0,1,4,6,7,8,9]
def Gk:Sl:=ae Go.Proofs.Tryz.types Go.Proofs.Tryz.f87 zt []
theorem NZ:aD Go.Proofs.Tryz.prog Go.Proofs.Tryz.f87 zt Gk 2=true:=by decide +kernel
theorem Cz{y n:Int}(hn : -4611686018427387904<=n)(hn2:n<=9223372036854775807):bm y 0 (IntKind.i64.wrap (n-1))=(decide (0<=y)&&decide (y<n)):=by
 unfold bm;rw[lh ⟨by simp[IntKind.min,IntKind.signed,IntKind.bits];omega,by simp[IntKind.max,IntKind.signed,IntKind.bits];omega⟩];congr 1;exact decide_eq_decide.2 ⟨fun h=>by omega,fun h=>by omega⟩
theorem pE(n:Int)(f:List Int)(hn : 0<=n):al Go.Proofs.Tryz.prog 87 [.v (ints f),.v (.int .i64 n)] (.bool (cL n f)):=by
 refine eI fun hw=>?_
 simp only[c7,eL,D.dx,IntKind.has,IntKind.max,IntKind.signed,IntKind.bits] at hw;obtain⟨⟨hw,-⟩,⟨-,hn2⟩,-⟩:=hw;have hp:=fun y=>Cz (y:=y) (n:=n) (by omega) (by simpa using hn2)
 refine aA Go.Proofs.Tryz.func87 NZ ?_;unfold Gk ae zt;simp only[go_sem];refine aI [3] (fun(i:Nat)=>[(6,.int .i64 i)]) (fun i=>i<=f.length/\cL n (f.take i)=true) (fun i=>f.length-i) 0 rfl ⟨Nat.zero_le _,rfl⟩ rfl ?_;rintro i ⟨hi,ha⟩;simp only[go_sem];refine⟨fun h=>⟨h,ak (pC _ _ _) rfl (.inl rfl) ?_⟩,fun h=>(AT (by omega) ha).symm⟩;simp only[go_sem];rw[hp];refine⟨fun h2=>?_,fun h2=>⟨i+1,⟨by omega,AU (d:=0) h ha (by simpa using h2)⟩,by omega,by rw[aH h hw]⟩⟩;exact(AV (d:=0) h (by rw[Bool.not_eq_true'] at h2;exact h2)).symm
theorem nS(a:List Int):∀e∈a.map (D.int .i64),e.bQ=true:=fun e he=>by
 obtain⟨x,_,rfl⟩:=List.mem_map.1 he;rfl
def y4:List Nat:=[0,2]
def FV:Sl:=ae Go.Proofs.Tryz.types Go.Proofs.Tryz.f91 y4 []
theorem NC:aD Go.Proofs.Tryz.prog Go.Proofs.Tryz.f91 y4 FV 1=true:=by decide +kernel
theorem jl(a:List Int)(hs:a.length<=1048576):al Go.Proofs.Tryz.prog 91 [.v (ints a)] (ints a):=by
 refine aA Go.Proofs.Tryz.func91 NC ?_;unfold FV ae y4;simp only[go_sem];exact⟨nS a,by rw[List.length_map];omega⟩
def Af:List Nat:=[0,2]
def G6:Sl:=ae Go.Proofs.Tryz.types Go.Proofs.Tryz.f48 Af []
theorem OH:aD Go.Proofs.Tryz.prog Go.Proofs.Tryz.f48 Af G6 1=true:=by decide +kernel
theorem jV(a:List Int)(hs:a.length<=1048576):al Go.Proofs.Tryz.prog 48 [.v (ints a)] (ints a):=by
 refine aA Go.Proofs.Tryz.func48 OH ?_;unfold G6 ae Af;simp only[go_sem];exact⟨nS a,by rw[List.length_map];omega⟩
def y5:List Nat:=[0,2,3,5,9,10,11]
def FW:Sl:=ae Go.Proofs.Tryz.types Go.Proofs.Tryz.f139 y5 []
theorem ND:aD Go.Proofs.Tryz.prog Go.Proofs.Tryz.f139 y5 FW 1=true:=by decide +kernel
theorem Q2(a:List (List Int))(hs:cN List.length a<=1048576):al Go.Proofs.Tryz.prog 139 [.v (aO a)] (aO a):=by
 have hl:a.length<=1048576:=by unfold cN at hs;omega
 have hm:a.length<=maxLen:=by simp only[maxLen];omega
 refine aA Go.Proofs.Tryz.func139 ND ?_;unfold FW ae y5;simp only[go_sem];refine⟨⟨by omega,by omega⟩,?_⟩;refine aI [3] (fun(i:Nat)=>[(6,.int .i64 i),(2,.o (aO (a.take i)))]) (fun i=>i<=a.length) (fun i=>a.length-i) 0 (by simp only[go_sem];rfl) (Nat.zero_le _) rfl ?_;rintro i hi;simp only[go_sem];refine⟨fun h=>⟨h,ak (jl (a.getD i []) (Nat.le_trans (uZ (cost:=List.length) h _) hs)) rfl (.inl (bL _)) ?_⟩,fun h=>by rw[List.take_of_length_le (by omega)]⟩;simp only[go_sem];refine⟨by rw[List.length_take];omega,i+1,by omega,by omega,by rw[b9 h [],aH h hm]⟩
def Ag:List Nat:=[0,2,3,4]
def G7:Sl:=ae Go.Proofs.Tryz.types Go.Proofs.Tryz.f130 Ag []
theorem OI:aD Go.Proofs.Tryz.prog Go.Proofs.Tryz.f130 Ag G7 1=true:=by decide +kernel
theorem RF(a:List (List Int))(hs:cN List.length a<=1048576):al Go.Proofs.Tryz.prog 130 [.v (aO a)] (aO a):=by
 have hl:a.length<=1048576:=by unfold cN at hs;omega
 have hm:a.length<=maxLen:=by simp only[maxLen];omega
 refine aA Go.Proofs.Tryz.func130 OI ?_;unfold G7 ae Ag;simp only[go_sem];refine aI [] (fun(i:Nat)=>[(3,.int .i64 i),(2,.o (aO (a.take i)))]) (fun i=>i<=a.length) (fun i=>a.length-i) 0 (by simp only[go_sem];rfl) (Nat.zero_le _) rfl ?_;rintro i hi;simp only[go_sem];refine⟨fun h=>⟨h,ak (jV (a.getD i []) (Nat.le_trans (uZ (cost:=List.length) h _) hs)) rfl (.inl (bL _)) ?_⟩,fun h=>by rw[List.take_of_length_le (by omega)]⟩;simp only[go_sem];refine⟨by rw[List.length_take];omega,i+1,by omega,by omega,by rw[b9 h [],aH h hm]⟩
def zy:List Nat:=[0,1,4,5]
def Gp:Sl:=ae Go.Proofs.Tryz.types Go.Proofs.Tryz.f34 zy []
theorem N3:aD Go.Proofs.Tryz.prog Go.Proofs.Tryz.f34 zy Gp 2=true:=by decide +kernel
theorem jT(a:List (Int)):al Go.Proofs.Tryz.prog 34 [.v (ints a),.v (ints a)] (.bool true):=by
 refine eI fun hw=>?_
 simp only[c7,eL] at hw;have hm:=hw.1.1;refine aA Go.Proofs.Tryz.func34 N3 ?_;unfold Gp ae zy;simp only[go_sem];refine⟨fun h=>by simp at h,fun _=>?_⟩;refine aI [] (fun(i:Nat)=>[(3,.int .i64 i)]) (fun i=>i<=a.length) (fun i=>a.length-i) 0 rfl (Nat.zero_le _) rfl ?_;rintro i hi;simp only[go_sem];exact fun h=>⟨h,h,fun h2=>by simp at h2,fun _=>⟨i+1,by omega,by omega,by rw[aH h hm]⟩⟩
def zz:List Nat:=[0,1,4,5]
def Gr:Sl:=ae Go.Proofs.Tryz.types Go.Proofs.Tryz.f67 zz []
theorem N4:aD Go.Proofs.Tryz.prog Go.Proofs.Tryz.f67 zz Gr 2=true:=by decide +kernel
theorem Ri(a:List (List (Int))):al Go.Proofs.Tryz.prog 67 [.v (aO a),.v (aO a)] (.bool true):=by
 refine eI fun hw=>?_
 simp only[c7,eL] at hw;have hm:=hw.1.1;refine aA Go.Proofs.Tryz.func67 N4 ?_;unfold Gr ae zz;simp only[go_sem];refine⟨fun h=>by simp at h,fun _=>?_⟩;refine aI [] (fun(i:Nat)=>[(3,.int .i64 i)]) (fun i=>i<=a.length) (fun i=>a.length-i) 0 rfl (Nat.zero_le _) rfl ?_;rintro i hi;simp only[go_sem];refine fun h=>⟨h,h,ak (jT (a.getD i [])) rfl (.inl rfl) ?_⟩
 simp only[go_sem];exact⟨i+1,by omega,by omega,by rw[aH h hm]⟩
end Go.D3
namespace Go.D3
open Go
set_option maxHeartbeats 4000000
set_option maxRecDepth 100000
def jM(k:Int)(a:List Int)(i:Nat):List Int:=((List.range i).map fun j:Nat=>k+j)++a.drop i
def cH(k:Int)(n:Nat):List Int:=(List.range n).map fun j:Nat=>k+j
theorem Mf{k:Int}{a:List Int}:jM k a 0=a:=by simp[jM]
theorem Md{k:Int}{a:List Int}{i:Nat}(h:i<=a.length):(jM k a i).length=a.length:=by simp[jM];omega
theorem Me{k:Int}{a:List Int}{i:Nat}(h:i<a.length):(jM k a i).set i (k+i)=jM k a (i+1):=by
 unfold jM;rw[List.set_append_right _ _ (by simp),List.range_succ,List.map_append];simp only[List.length_map,List.length_range,Nat.sub_self,List.map_cons,List.map_nil,List.append_assoc];congr 1;rw[List.drop_eq_getElem_cons h];rfl
theorem Mc{k:Int}{a:List Int}{i:Nat}(h:¬i<a.length)(hi:i<=a.length):jM k a i=cH k a.length:=by
 have:i=a.length:=by omega
 subst this;simp[jM,cH]
def zK:List Nat:=[0,1,4,5]
def GD:Sl:=ae Go.Proofs.Tryz.types Go.Proofs.Tryz.f38 zK []
theorem Of:aD Go.Proofs.Tryz.prog Go.Proofs.Tryz.f38 zK GD 2=true:=by decide +kernel
theorem jU(a:List Int)(k:Int)(h0 : 0<=k)(h1:k+a.length<=4611686018427387900):al Go.Proofs.Tryz.prog 38 [.io (.o (ints a)) (.o (ints (cH k a.length))),.v (.int .i64 k)] (.int .i64 (k+a.length)):=by
 refine eI fun hw=>?_
 simp only[c7,eL] at hw;have hm:a.length<=maxLen:=hw.1.1;refine aA Go.Proofs.Tryz.func38 Of ?_;unfold GD ae zK;simp only[go_sem];refine aI [] (fun(i:Nat)=>[(1,.int .i64 (k+i)),(3,.int .i64 i),(4,.o (ints (jM k a i)))]) (fun i=>i<=a.length) (fun i=>a.length-i) 0 (by simp only[go_sem];rfl) (Nat.zero_le _) ?_ ?_
 ·simp only[go_sem,Mf];simp
 rintro i hi;simp only[go_sem];rw[Md hi];refine⟨fun h=>⟨h,h,i+1,by omega,by omega,?_⟩,fun h=>⟨by rw[show i=a.length by omega],by rw[Mc h hi]⟩⟩;rw[Me h,aH h hm,wrap_small (by omega) (by omega)];simp only[Int.natCast_add,Int.natCast_one,Int.add_assoc]
def cE(a:List (List Int)):Nat->Nat
 | 0=>0
 | i+1=>cE a i+(a.getD i []).length
def iA(k:Int)(a:List (List Int))(i:Nat):List (List Int):=((List.range i).map fun j=>cH (k+cE a j) (a.getD j []).length)++a.drop i
def jN(k:Int)(a:List (List Int)):List (List Int):=(List.range a.length).map fun j=>cH (k+cE a j) (a.getD j []).length
theorem Mk{k:Int}{a:List (List Int)}:iA k a 0=a:=by simp[iA]
theorem Mi{k:Int}{a:List (List Int)}{i:Nat}(h:i<=a.length):(iA k a i).length=a.length:=by simp[iA];omega
theorem Mh{k:Int}{a:List (List Int)}{i:Nat}(_:i<a.length):(iA k a i).getD i []=a.getD i []:=by
 unfold iA;rw[List.getD_eq_getElem?_getD,List.getElem?_append_right (by simp),List.length_map,List.length_range,Nat.sub_self,List.getElem?_drop,Nat.add_zero,<-List.getD_eq_getElem?_getD]
theorem Mj{k:Int}{a:List (List Int)}{i:Nat}(h:i<a.length):(iA k a i).set i (cH (k+cE a i) (a.getD i []).length)=iA k a (i+1):=by
 unfold iA;rw[List.set_append_right _ _ (by simp),List.range_succ,List.map_append];simp only[List.length_map,List.length_range,Nat.sub_self,List.map_cons,List.map_nil,List.append_assoc];congr 1;rw[List.drop_eq_getElem_cons h];rfl
theorem Mg{k:Int}{a:List (List Int)}{i:Nat}(h:¬i<a.length)(hi:i<=a.length):iA k a i=jN k a:=by
 have:i=a.length:=by omega
 subst this;simp[iA,jN]
theorem BN{a:List (List Int)}{i j:Nat}(h:i<=j):cE a i<=cE a j:=by
 induction h with
 | refl=>exact Nat.le_refl _
 | step _ ih=>exact Nat.le_trans ih (Nat.le_add_right _ _)
theorem SD{L:List D}{i:Nat}{z y:D}(hz:z.isAgg=false):(L.set i .dead).set i (dG ((L.set i .dead).getD i z) 0 y)=L.set i y:=by
 have:dG ((L.set i .dead).getD i z) 0 y=y:=by
  rw[List.getD_eq_getElem?_getD];by_cases h:i<L.length
  ·rw[List.getElem?_set_self h];rfl
  ·rw[List.getElem?_eq_none (by simpa using h)]
   simp only[Option.getD_none];cases z<;>first | rfl | cases hz
 rw[this,List.set_set]
def zL:List Nat:=[0,1,4,5]
def GF:Sl:=ae Go.Proofs.Tryz.types Go.Proofs.Tryz.f68 zL [(2,38)]
theorem Og:aD Go.Proofs.Tryz.prog Go.Proofs.Tryz.f68 zL GF 2=true:=by decide +kernel
theorem Rn(a:List (List Int))(k:Int)(h0 : 0<=k)(h1:k+cE a a.length<=4611686018427387900):al Go.Proofs.Tryz.prog 68 [.io (.o (aO a)) (.o (aO (jN k a))),.v (.int .i64 k)] (.int .i64 (k+cE a a.length)):=by
 refine eI fun hw=>?_
 simp only[c7,eL] at hw;have hm:a.length<=maxLen:=hw.1.1;refine aA Go.Proofs.Tryz.func68 Og ?_;unfold GF ae zL;simp only[go_sem];refine aI [] (fun(i:Nat)=>[(1,.int .i64 (k+cE a i)),(3,.int .i64 i),(4,.o (aO (iA k a i)))]) (fun i=>i<=a.length) (fun i=>a.length-i) 0 (by simp only[go_sem];rfl) (Nat.zero_le _) ?_ ?_
 ·simp only[go_sem,Mk,cE];simp
 rintro i hi;simp only[go_sem];rw[Mi hi];refine⟨fun h=>⟨h,?_⟩,fun h=>⟨by rw[show i=a.length by omega],by rw[Mg h hi]⟩⟩;have hc:cE a (i+1)<=cE a a.length:=BN h;simp only[cE] at hc;refine fc (jU (a.getD i []) (k+cE a i) (by omega) (by omega)) (by trivial) ?_;simp only[go_sem];refine⟨_,ints (cH (k+cE a i) (a.getD i []).length),rfl,?_,rfl,i+1,by omega,by omega,?_⟩
 ·rw[Mh h]
 ·rw[SD rfl,wb,Mj h,aH h hm]
  simp only[cE,Int.natCast_add,Int.add_assoc]
theorem Dh{k:Int}{n:Nat}:(cH k n).length=n:=by simp[cH]
theorem Ml{k:Int}{n i:Nat}(h:i<n):(cH k n).getD i 0=k+i:=by
 unfold cH;rw[List.getD_eq_getElem?_getD,List.getElem?_map,List.getElem?_range h];rfl
def zG:List Nat:=[0,1,4,5]
def Gz:Sl:=ae Go.Proofs.Tryz.types Go.Proofs.Tryz.f42 zG []
theorem Ob:aD Go.Proofs.Tryz.prog Go.Proofs.Tryz.f42 zG Gz 2=true:=by decide +kernel
theorem pF(n:Nat)(k:Int)(h0 : 0<=k)(h1:k+n<=4611686018427387900):al Go.Proofs.Tryz.prog 42 [.v (ints (cH k n)),.v (.int .i64 k)] (.int .i64 (k+n)):=by
 refine eI fun hw=>?_
 simp only[c7,eL,Dh] at hw;have hm:n<=maxLen:=hw.1.1;refine aA Go.Proofs.Tryz.func42 Ob ?_;unfold Gz ae zG;simp only[go_sem];refine aI [] (fun(i:Nat)=>[(1,.int .i64 (k+i)),(3,.int .i64 i)]) (fun i=>i<=n) (fun i=>n-i) 0 (by simp only[go_sem];rfl) (Nat.zero_le _) ?_ ?_
 ·simp only[go_sem];simp
 rintro i hi;simp only[go_sem];simp only[Dh];refine⟨fun h=>⟨h,?_⟩,fun h=>by rw[show i=n by omega]⟩;rw[Ml h];refine⟨fun hh=>by simp at hh,fun _=>⟨i+1,by omega,by omega,?_⟩⟩;rw[aH h hm,wrap_small (by omega) (by omega)];simp only[Int.natCast_add,Int.natCast_one,Int.add_assoc]
theorem Di{k:Int}{a:List (List Int)}:(jN k a).length=a.length:=by simp[jN]
theorem Mm{k:Int}{a:List (List Int)}{i:Nat}(h:i<a.length):(jN k a).getD i []=cH (k+cE a i) (a.getD i []).length:=by
 unfold jN;rw[List.getD_eq_getElem?_getD,List.getElem?_map,List.getElem?_range h];rfl
def zH:List Nat:=[0,1,4,5]
def GA:Sl:=ae Go.Proofs.Tryz.types Go.Proofs.Tryz.f69 zH []
theorem Oc:aD Go.Proofs.Tryz.prog Go.Proofs.Tryz.f69 zH GA 2=true:=by decide +kernel
theorem Rl(a:List (List Int))(k:Int)(h0 : 0<=k)(h1:k+cE a a.length<=4611686018427387900):al Go.Proofs.Tryz.prog 69 [.v (aO (jN k a)),.v (.int .i64 k)] (.int .i64 (k+cE a a.length)):=by
 refine eI fun hw=>?_
 simp only[c7,eL,Di] at hw;have hm:a.length<=maxLen:=hw.1.1;refine aA Go.Proofs.Tryz.func69 Oc ?_;unfold GA ae zH;simp only[go_sem];refine aI [] (fun(i:Nat)=>[(1,.int .i64 (k+cE a i)),(3,.int .i64 i)]) (fun i=>i<=a.length) (fun i=>a.length-i) 0 (by simp only[go_sem];rfl) (Nat.zero_le _) ?_ ?_
 ·simp only[go_sem,cE];simp
 rintro i hi;simp only[go_sem];simp only[Di];refine⟨fun h=>⟨h,?_⟩,fun h=>by rw[show i=a.length by omega]⟩;rw[Mm h];have hc:cE a (i+1)<=cE a a.length:=BN h;simp only[cE] at hc;refine ak (pF (a.getD i []).length (k+cE a i) (by omega) (by omega)) rfl (.inl rfl) ?_;simp only[go_sem];refine⟨fun hh=>by omega,fun _=>⟨i+1,by omega,by omega,?_⟩⟩;rw[aH h hm];simp only[cE,Int.natCast_add,Int.add_assoc]
end Go.D3
namespace Go.D3
open Go
set_option maxHeartbeats 4000000
set_option maxRecDepth 100000
theorem wa{α:Type}{f:α->D}{d:α}{l:List α}{k:Nat}{p:Path}:oB k p (U f d l)=U f d l:=rfl
attribute [go_sem] wa
def bp(fr to:List Int):Int->List Int->Option Int
 | x,[]=>some x
 | x,e::r=>if(bm e 0 ((fr.length:Int)-1)&&fr.getD e.toNat 0 == x)=true then bp fr to (to.getD e.toNat 0) r else none
def gN:Option Int->D
 | some x=>.af [.int .i64 x,.bool true]
 | none=>.af [.int .i64 0,.bool false]
theorem si{fr to l:List Int}{x:Int}{i:Nat}(h:i<l.length):bp fr to x (l.drop i)=if(bm (l.getD i 0) 0 ((fr.length:Int)-1)&&fr.getD (l.getD i 0).toNat 0 == x)=true then bp fr to (to.getD (l.getD i 0).toNat 0) (l.drop (i+1)) else none:=by
 rw[List.drop_eq_getElem_cons h,bp,aX h]
theorem H7{n:Nat}(h:n<=maxLen):IntKind.i64.wrap ((n:Int)-1)=(n:Int)-1:=by
 simp only[maxLen] at h;exact lh ⟨by simp[IntKind.min,IntKind.signed,IntKind.bits];omega,by simp[IntKind.max,IntKind.signed,IntKind.bits];omega⟩
def yP:List Nat:=[0,1,2,6,7,9,10,11,12]
def FJ:Sl:=ae Go.Proofs.Tryz.types Go.Proofs.Tryz.f114 yP []
theorem Nr:aD Go.Proofs.Tryz.prog Go.Proofs.Tryz.f114 yP FJ 3=true:=by decide +kernel
theorem QV[Mode](s:Sch)(x:Int)(l:List Int)(hto:s.to.length=s.fr.length):al Go.Proofs.Tryz.prog 114 [.v (.ptr s.cells),.v (.int .i64 x),.v (ints l)] (gN (bp s.fr s.to x l)):=by
 refine eI fun hw=>?_
 simp only[c7,eL,Sch.cells,D.dx,gh] at hw;obtain⟨⟨-,⟨hf,-⟩,-⟩,-,⟨hl,-⟩,-⟩:=hw;refine aA Go.Proofs.Tryz.func114 Nr ?_;unfold FJ ae yP;simp only[go_sem];refine aI [5] (fun(p:Nat×Int)=>[(1,.int .i64 p.2),(8,.int .i64 p.1)]) (fun p=>p.1<=l.length/\bp s.fr s.to p.2 (l.drop p.1)=bp s.fr s.to x l) (fun p=>l.length-p.1) (0,x) (by simp only[go_sem];rfl) ⟨Nat.zero_le _,rfl⟩ rfl ?_;rintro⟨i,y⟩ ⟨hi,ha⟩;simp only[go_sem];rw[H7 hf];refine⟨fun h=>⟨h,ak (pC _ _ _) rfl (.inl rfl) ?_⟩,fun h=>?_⟩
 ·simp only[go_sem]
  have hstep:=si (fr:=s.fr) (to:=s.to) (x:=y) h;simp only at ha hi;rw[hstep] at ha;have hin:bm (l.getD i 0) 0 ((s.fr.length:Int)-1)=true->0<=l.getD i 0/\l.getD i 0<s.fr.length:=by unfold bm;simp;omega
  refine⟨fun h1=>⟨h1,hin h1⟩,fun h1=>by simpa using h1,fun h1=>?_,fun h1=>?_⟩
  ·rw[<-ha,if_neg];rfl
   intro h2;simp only[Bool.and_eq_true,beq_iff_eq] at h2;rw[h2.1,h2.2] at h1;simp at h1
  ·have h2:(bm (l.getD i 0) 0 ((s.fr.length:Int)-1)&&s.fr.getD (l.getD i 0).toNat 0 == y)=true:=by
    simp only[Bool.or_eq_false_iff,Bool.not_eq_false',bne_eq_false_iff_eq] at h1;rw[h1.1,h1.2];simp
   rw[if_pos h2] at ha;simp only[Bool.and_eq_true] at h2;exact⟨by have:=hin h2.1;omega,(i+1,s.to.getD (l.getD i 0).toNat 0),⟨h,ha⟩,by show l.length-(i+1)<l.length-i;omega,by rw[aH h hl]⟩
 ·simp only at ha hi
  rw[show i=l.length by omega,List.drop_length] at ha;rw[<-ha];rfl
def Sch.aF(s:Sch)(p:Pth):Option Int:=if(bm p.st 0 (s.nd-1)&&decide (p.ed.length<=6))=true then bp s.fr s.to p.st p.ed else none
def yO:List Nat:=[0,1,4,5,3]
def FI:Sl:=ae Go.Proofs.Tryz.types Go.Proofs.Tryz.f88 yO []
theorem Nq:aD Go.Proofs.Tryz.prog Go.Proofs.Tryz.f88 yO FI 2=true:=by decide +kernel
theorem mc[Mode](s:Sch)(p:Pth)(hto:s.to.length=s.fr.length)(hn : 0<=s.nd):al Go.Proofs.Tryz.prog 88 [.v (.ptr s.cells),.v (Pth.d p)] (gN (s.aF p)):=by
 refine eI fun hw=>?_
 simp only[c7,eL,Sch.cells,D.dx,gh,IntKind.has,IntKind.max,IntKind.signed,IntKind.bits] at hw;have hn2:s.nd<=9223372036854775807:=by simpa using hw.1.1.2
 have hsub:IntKind.i64.wrap (s.nd-1)=s.nd-1:=lh ⟨by simp[IntKind.min,IntKind.signed,IntKind.bits];omega,by simp[IntKind.max,IntKind.signed,IntKind.bits];omega⟩;refine aA Go.Proofs.Tryz.func88 Nq ?_;unfold FI ae yO;simp only[go_sem];rw[hsub];refine ak (pC _ _ _) rfl (.inl rfl) ?_;simp only[go_sem]
 have he:(bm p.st 0 (s.nd-1)&&decide (p.ed.length<=6))=!(!bm p.st 0 (s.nd-1) || decide ((6:Int)<(p.ed.length:Int))):=by
  rw[Bool.not_or,Bool.not_not,<-decide_not];congr 1;exact decide_eq_decide.2 (by omega)
 refine⟨fun h=>by simpa using h,fun h=>?_,fun h=>?_⟩
 ·unfold Sch.aF;rw[he,h];rfl
 ·refine ak (QV s p.st p.ed hto) rfl (.inl (by cases bp s.fr s.to p.st p.ed<;>rfl)) ?_
  have:s.aF p=bp s.fr s.to p.st p.ed:=by unfold Sch.aF;rw[he,h];rfl
  rw[this];cases bp s.fr s.to p.st p.ed<;>simp only[gN]<;>simp only[go_sem]
def Sch.qo(s:Sch)(p q:Pth):Bool :=
 match s.aF p,s.aF q with
 | some a,some b=>p.st == q.st&&a == b
 | _,_=>false
def Sch.fU(s:Sch):Bool:=bm s.nd 0 8&&(decide (s.fr.length<=8)&&(decide (s.to.length=s.fr.length)&&(cL s.nd s.fr&&cL s.nd s.to)))
def Sch.gV(s:Sch):Bool:=decide (s.lf.length<=8)&&decide (s.rt.length=s.lf.length)
def Sch.eqs(s:Sch)(n:Nat):Bool:=(List.range n).all fun i=>s.qo (s.lf.getD i Pth.zero) (s.rt.getD i Pth.zero)
def Sch.ok(s:Sch):Bool:=s.fU&&s.gV&&s.eqs s.lf.length
theorem B1{s:Sch}{n:Nat}:s.eqs (n+1)=(s.eqs n&&s.qo (s.lf.getD n Pth.zero) (s.rt.getD n Pth.zero)):=by
 unfold Sch.eqs;rw[List.range_succ,List.all_append];simp
def yQ:List Nat:=[0,2,3,4,5,6,7,8,9,83,84,85]
def FK:Sl:=ae Go.Proofs.Tryz.types Go.Proofs.Tryz.f86 yQ []
theorem Ns:aD Go.Proofs.Tryz.prog Go.Proofs.Tryz.f86 yQ FK 1=true:=by decide +kernel
theorem E0(s:Sch):al Go.Proofs.Tryz.prog 86 [.v (.ptr s.cells)] (.bool s.ok):=by
 refine eI fun hw=>?_
 simp only[c7,eL,Sch.cells,D.dx,gh] at hw;refine aA Go.Proofs.Tryz.func86 Ns ?_;unfold FK ae yQ;simp only[go_sem];refine ak (pC _ _ _) rfl (.inl rfl) ?_;simp only[go_sem];refine⟨fun h=>by simpa using h,(fun h=>by simp only[Bool.or_eq_false_iff,Bool.and_eq_true,Bool.not_eq_true',Bool.not_eq_false'] at h|-;exact h),?_⟩;refine bO (fun hg=>pE s.nd s.fr (by simp only[Bool.and_eq_true] at hg;have:=hg.1.1;unfold bm at this;simp at this;omega)) rfl (fun h=>h) (.inl rfl) ?_;simp only[go_sem];refine⟨fun h=>by simpa using h,?_⟩;refine bO (fun hg=>pE s.nd s.to (by simp only[Bool.and_eq_true] at hg;have:=hg.1.1.1;unfold bm at this;simp at this;omega)) rfl (fun h=>h) (.inl rfl) ?_;simp only[go_sem]
 have e1:s.fU=!(!bm s.nd 0 8 || decide ((8:Int)<(s.fr.length:Int)) || ((s.to.length:Int) != (s.fr.length:Int)) || !cL s.nd s.fr || !cL s.nd s.to):=by
  unfold Sch.fU;have a1:decide (s.fr.length<=8)=!decide ((8:Int)<(s.fr.length:Int)):=by rw[<-decide_not];exact decide_eq_decide.2 (by omega)
  have a2:decide (s.to.length=s.fr.length)=!((s.to.length:Int) != (s.fr.length:Int)):=by
   by_cases h:s.to.length=s.fr.length<;>simp[h]<;>omega
  rw[a1,a2];cases bm s.nd 0 8<;>cases decide ((8:Int)<(s.fr.length:Int))<;>cases((s.to.length:Int) != (s.fr.length:Int))<;>cases cL s.nd s.fr<;>cases cL s.nd s.to<;>rfl
 have e2:s.gV=!(decide ((8:Int)<(s.lf.length:Int)) || ((s.rt.length:Int) != (s.lf.length:Int))):=by
  unfold Sch.gV;have a1:decide (s.lf.length<=8)=!decide ((8:Int)<(s.lf.length:Int)):=by rw[<-decide_not];exact decide_eq_decide.2 (by omega)
  have a2:decide (s.rt.length=s.lf.length)=!((s.rt.length:Int) != (s.lf.length:Int)):=by
   by_cases h:s.rt.length=s.lf.length<;>simp[h]<;>omega
  rw[a1,a2,Bool.not_or]
 refine⟨fun h=>by simpa using h,fun h=>?_,fun h=>⟨fun h2=>by simpa using h2,fun h2=>?_,fun h2=>?_⟩⟩
 ·unfold Sch.ok;rw[e1,h];rfl
 ·unfold Sch.ok;rw[e2,h2];simp
 rw[h] at e1;rw[h2] at e2;have hto:s.to.length=s.fr.length:=by have:=e1;simp[Sch.fU] at this;exact this.2.2.1
 have hn : 0<=s.nd:=by have:=e1;simp[Sch.fU,bm] at this;omega
 have hrt:s.rt.length=s.lf.length:=by have:=e2;simp[Sch.gV] at this;exact this.2
 have hl:s.lf.length<=maxLen:=hw.1.2.2.2.1.1;clear h h2;refine aI [2,3,4,5,6,7,8] (fun(i:Nat)=>[(11,.int .i64 i)]) (fun i=>i<=s.lf.length/\s.eqs i=true) (fun i=>s.lf.length-i) 0 (by simp only[go_sem];rfl) ⟨Nat.zero_le _,rfl⟩ rfl ?_;rintro i ⟨hi,ha⟩;simp only[go_sem];refine⟨fun h=>⟨h,by omega,ak (mc s (s.lf.getD i Pth.zero) hto hn) rfl (.inl (by cases s.aF (s.lf.getD i Pth.zero)<;>rfl)) ?_⟩,fun h=>?_⟩
 ·have hE:=B1 (s:=s) (n:=i)
  unfold Sch.qo at hE
  have neg:s.eqs (i+1)=false->false=s.ok:=fun hf=>by
   unfold Sch.ok;rw[e1,e2];symm;simp only[Bool.not_false,Bool.true_and];unfold Sch.eqs at hf|-
   rw[List.all_eq_false] at hf|-
   obtain⟨x,h1,h2⟩:=hf;exact⟨x,by rw[List.mem_range] at h1|-;omega,h2⟩
  have pos:s.eqs (i+1)=true->i+1<=s.lf.length/\s.eqs (i+1)=true:=fun hp=>⟨h,hp⟩
  cases hp:s.aF (s.lf.getD i Pth.zero) with
  | none =>
   rw[hp,ha] at hE;have hE':=neg (by rw[hE];cases s.aF (s.rt.getD i Pth.zero)<;>rfl);simp only[gN];simp only[go_sem];refine ak (mc s (s.rt.getD i Pth.zero) hto hn) rfl (.inl (by cases s.aF (s.rt.getD i Pth.zero)<;>rfl)) ?_;cases hq:s.aF (s.rt.getD i Pth.zero)<;>simp only[gN]<;>simp only[go_sem]
   all_goals exact hE'
  | some a =>
   rw[hp,ha] at hE;simp only[gN];simp only[go_sem];refine ak (mc s (s.rt.getD i Pth.zero) hto hn) rfl (.inl (by cases s.aF (s.rt.getD i Pth.zero)<;>rfl)) ?_;cases hq:s.aF (s.rt.getD i Pth.zero)<;>simp only[gN]<;>simp only[go_sem]
   ·rw[hq] at hE;exact neg hE
   ·rename_i b
    rw[hq] at hE;simp only[Bool.true_and] at hE;refine⟨fun h=>by simpa using h,fun h=>neg ?_,fun h=>?_⟩
    ·rw[hE,Bool.and_eq_false_iff]
     simp only[Bool.or_eq_true,bne_iff_ne] at h;exact h.imp beq_eq_false_iff_ne.2 beq_eq_false_iff_ne.2
    ·simp only[Bool.or_eq_false_iff,bne_eq_false_iff_eq] at h
     exact⟨i+1,pos (by rw[hE,Bool.and_eq_true];exact⟨beq_iff_eq.2 h.1,beq_iff_eq.2 h.2⟩),by omega,by rw[aH (by omega) hl]⟩
 ·rw[show i=s.lf.length by omega] at ha
  unfold Sch.ok;rw[e1,e2,ha];rfl
end Go.D3
namespace Go.D3
open Go
set_option maxHeartbeats 4000000
set_option maxRecDepth 100000
def po(fr:List Int)(x:Int)(i:Nat):List Int:=((List.range i).filter fun e=>fr.getD e 0 == x) |>.map fun e:Nat=>(e:Int)
theorem Pq{fr:List Int}{x:Int}{i:Nat}:po fr x (i+1)=po fr x i++(if fr.getD i 0=x then[(i:Int)] else[]):=by
 unfold po;rw[List.range_succ,List.filter_append,List.map_append];congr 1;by_cases h:fr.getD i 0=x
 ·rw[if_pos h,List.filter_cons_of_pos (by simpa using h)];rfl
 ·rw[if_neg h,List.filter_cons_of_neg (by simpa using h)];rfl
theorem gw{n:Int}{l:List Int}{i:Nat}(h:cL n l=true)(hi:i<l.length) : 0<=l.getD i 0/\l.getD i 0<n:=by
 unfold cL at h;have:=List.all_eq_true.1 h _ (List.getElem_mem hi);rw[aX hi];simpa using this
section
variable{β:Type}{f:Nat->Option β}{i n:Nat}{b:β}
end
def bu.okB(c:bu):Bool:=if c.kd=1 then c.se == 0&&c.th == 0 else c.kd == 2
end Go.D3
