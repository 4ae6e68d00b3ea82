/- CONTRACTS: the journals: marks. -/
import Derived.Test.YtpnchponfnbmiaaGreatDoorHG
import Derived.Test.YtpnchponfnbmiaaGreatDoorProg
namespace Go.D3
open Go
set_option maxHeartbeats 4000000
set_option maxRecDepth 100000
structure bA where
 kd:Int
 fi:Int
 se:Int
 th:Int
def bA.cells(x:bA):List D:=[.int .i64 x.kd,.int .i64 x.fi,.int .i64 x.se,.int .i64 x.th]
def bA.d(x:bA):D:=.agg x.cells
def bA.zero:bA:=⟨0,0,0,0⟩
def bA.cost(_:bA):Nat:=0
theorem UN:D.slice (.agg [.int .i64 0,.int .i64 0,.int .i64 0,.int .i64 0]) []=U bA.d bA.zero []:=rfl
theorem SH{n:Nat}:D.slice (.agg [.int .i64 0,.int .i64 0,.int .i64 0,.int .i64 0]) (List.replicate n (.agg [.int .i64 0,.int .i64 0,.int .i64 0,.int .i64 0]))=U bA.d bA.zero (List.replicate n bA.zero):=by unfold U;rw[List.map_replicate];rfl
theorem Un{l:List bA}{i:Nat}{kd:Int}{fi:Int}{se:Int}{th:Int}:cX (.o (U bA.d bA.zero l)) [(i,0)] 0 [.int .i64 kd,.int .i64 fi,.int .i64 se,.int .i64 th]=.o (U bA.d bA.zero (l.set i ⟨kd,fi,se,th⟩)):=mQ (n:=4) (fun _=>⟨_,rfl,rfl⟩) rfl
attribute [go_sem] bA.cells.eq_1 bA.d.eq_1 UN SH
theorem Kw{l:List bA}{kd:Int}{fi:Int}{se:Int}{th:Int}:(U bA.d bA.zero l).cZ [.agg [.int .i64 kd,.int .i64 fi,.int .i64 se,.int .i64 th]]=U bA.d bA.zero (l++[⟨kd,fi,se,th⟩]):=kY (f:=bA.d) (x:=⟨kd,fi,se,th⟩)
attribute [go_sem high] Un Kw
structure Pth where
 st:Int
 ed:List (Int)
def Pth.cells(x:Pth):List D:=[.int .i64 x.st,ints x.ed]
def Pth.d(x:Pth):D:=.agg x.cells
def Pth.zero:Pth:=⟨0,[]⟩
def Pth.cost(x:Pth):Nat:=x.ed.length
theorem UR:D.slice (.agg [.int .i64 0,ints []]) []=U Pth.d Pth.zero []:=rfl
theorem SL{n:Nat}:D.slice (.agg [.int .i64 0,ints []]) (List.replicate n (.agg [.int .i64 0,ints []]))=U Pth.d Pth.zero (List.replicate n Pth.zero):=by unfold U;rw[List.map_replicate];rfl
theorem Ur{l:List Pth}{i:Nat}{st:Int}{ed:List (Int)}:cX (.o (U Pth.d Pth.zero l)) [(i,0)] 0 [.int .i64 st,ints ed]=.o (U Pth.d Pth.zero (l.set i ⟨st,ed⟩)):=mQ (n:=2) (fun _=>⟨_,rfl,rfl⟩) rfl
attribute [go_sem] Pth.cells.eq_1 Pth.d.eq_1 UR SL
theorem KA{l:List Pth}{st:Int}{ed:List (Int)}:(U Pth.d Pth.zero l).cZ [.agg [.int .i64 st,ints ed]]=U Pth.d Pth.zero (l++[⟨st,ed⟩]):=kY (f:=Pth.d) (x:=⟨st,ed⟩)
attribute [go_sem high] Ur KA
theorem jA(x:Pth):x.d.ba=true:=by simp only[Pth.d,Pth.cells,D.ba,dH,bJ,Bool.and_self]
structure Sch where
 nd:Int
 fr:List (Int)
 to:List (Int)
 lf:List (Pth)
 rt:List (Pth)
def Sch.cells(x:Sch):List D:=[.int .i64 x.nd,ints x.fr,ints x.to,U Pth.d Pth.zero x.lf,U Pth.d Pth.zero x.rt]
def Sch.d(x:Sch):D:=.agg x.cells
def Sch.zero:Sch:=⟨0,[],[],[],[]⟩
def Sch.cost(x:Sch):Nat:=x.fr.length+x.to.length+b7 Pth.cost x.lf+b7 Pth.cost x.rt
theorem US:D.slice (.agg [.int .i64 0,ints [],ints [],U Pth.d Pth.zero [],U Pth.d Pth.zero []]) []=U Sch.d Sch.zero []:=rfl
theorem SM{n:Nat}:D.slice (.agg [.int .i64 0,ints [],ints [],U Pth.d Pth.zero [],U Pth.d Pth.zero []]) (List.replicate n (.agg [.int .i64 0,ints [],ints [],U Pth.d Pth.zero [],U Pth.d Pth.zero []]))=U Sch.d Sch.zero (List.replicate n Sch.zero):=by unfold U;rw[List.map_replicate];rfl
theorem Us{l:List Sch}{i:Nat}{nd:Int}{fr:List (Int)}{to:List (Int)}{lf:List (Pth)}{rt:List (Pth)}:cX (.o (U Sch.d Sch.zero l)) [(i,0)] 0 [.int .i64 nd,ints fr,ints to,U Pth.d Pth.zero lf,U Pth.d Pth.zero rt]=.o (U Sch.d Sch.zero (l.set i ⟨nd,fr,to,lf,rt⟩)):=mQ (n:=5) (fun _=>⟨_,rfl,rfl⟩) rfl
attribute [go_sem] Sch.cells.eq_1 Sch.d.eq_1 US SM
theorem KB{l:List Sch}{nd:Int}{fr:List (Int)}{to:List (Int)}{lf:List (Pth)}{rt:List (Pth)}:(U Sch.d Sch.zero l).cZ [.agg [.int .i64 nd,ints fr,ints to,U Pth.d Pth.zero lf,U Pth.d Pth.zero rt]]=U Sch.d Sch.zero (l++[⟨nd,fr,to,lf,rt⟩]):=kY (f:=Sch.d) (x:=⟨nd,fr,to,lf,rt⟩)
attribute [go_sem high] Us KB
theorem pN(x:Sch):x.d.ba=true:=by simp only[Sch.d,Sch.cells,D.ba,dH,bJ,gq jA,Bool.and_self]
structure bm where
 sz:List (Int)
 mp:List (List (Int))
def bm.cells(x:bm):List D:=[ints x.sz,aW x.mp]
def bm.d(x:bm):D:=.agg x.cells
def bm.zero:bm:=⟨[],[]⟩
def bm.cost(x:bm):Nat:=x.sz.length+b7 List.length x.mp
theorem UO:D.slice (.agg [ints [],aW []]) []=U bm.d bm.zero []:=rfl
theorem SI{n:Nat}:D.slice (.agg [ints [],aW []]) (List.replicate n (.agg [ints [],aW []]))=U bm.d bm.zero (List.replicate n bm.zero):=by unfold U;rw[List.map_replicate];rfl
theorem Uo{l:List bm}{i:Nat}{sz:List (Int)}{mp:List (List (Int))}:cX (.o (U bm.d bm.zero l)) [(i,0)] 0 [ints sz,aW mp]=.o (U bm.d bm.zero (l.set i ⟨sz,mp⟩)):=mQ (n:=2) (fun _=>⟨_,rfl,rfl⟩) rfl
attribute [go_sem] bm.cells.eq_1 bm.d.eq_1 UO SI
theorem Kx{l:List bm}{sz:List (Int)}{mp:List (List (Int))}:(U bm.d bm.zero l).cZ [.agg [ints sz,aW mp]]=U bm.d bm.zero (l++[⟨sz,mp⟩]):=kY (f:=bm.d) (x:=⟨sz,mp⟩)
attribute [go_sem high] Uo Kx
structure cY where
 sc:Sch
 dt:List (bm)
 tx:List (List (bA))
 gd:Int
def cY.cells(x:cY):List D:=[.int .i64 x.sc.nd,ints x.sc.fr,ints x.sc.to,U Pth.d Pth.zero x.sc.lf,U Pth.d Pth.zero x.sc.rt,U bm.d bm.zero x.dt,U (U bA.d bA.zero) [] x.tx,.int .i64 x.gd]
def cY.d(x:cY):D:=.agg x.cells
def cY.zero:cY:=⟨Sch.zero,[],[],0⟩
def cY.cost(x:cY):Nat:=Sch.cost x.sc+b7 bm.cost x.dt+b7 (b7 bA.cost) x.tx
theorem UQ:D.slice (.agg [.int .i64 0,ints [],ints [],U Pth.d Pth.zero [],U Pth.d Pth.zero [],U bm.d bm.zero [],U (U bA.d bA.zero) [] [],.int .i64 0]) []=U cY.d cY.zero []:=rfl
theorem SK{n:Nat}:D.slice (.agg [.int .i64 0,ints [],ints [],U Pth.d Pth.zero [],U Pth.d Pth.zero [],U bm.d bm.zero [],U (U bA.d bA.zero) [] [],.int .i64 0]) (List.replicate n (.agg [.int .i64 0,ints [],ints [],U Pth.d Pth.zero [],U Pth.d Pth.zero [],U bm.d bm.zero [],U (U bA.d bA.zero) [] [],.int .i64 0]))=U cY.d cY.zero (List.replicate n cY.zero):=by unfold U;rw[List.map_replicate];rfl
theorem Uq{l:List cY}{i:Nat}{scnd:Int}{scfr:List (Int)}{scto:List (Int)}{sclf:List (Pth)}{scrt:List (Pth)}{dt:List (bm)}{tx:List (List (bA))}{gd:Int}:cX (.o (U cY.d cY.zero l)) [(i,0)] 0 [.int .i64 scnd,ints scfr,ints scto,U Pth.d Pth.zero sclf,U Pth.d Pth.zero scrt,U bm.d bm.zero dt,U (U bA.d bA.zero) [] tx,.int .i64 gd]=.o (U cY.d cY.zero (l.set i ⟨⟨scnd,scfr,scto,sclf,scrt⟩,dt,tx,gd⟩)):=mQ (n:=8) (fun _=>⟨_,rfl,rfl⟩) rfl
attribute [go_sem] cY.cells.eq_1 cY.d.eq_1 UQ SK
theorem Kz{l:List cY}{scnd:Int}{scfr:List (Int)}{scto:List (Int)}{sclf:List (Pth)}{scrt:List (Pth)}{dt:List (bm)}{tx:List (List (bA))}{gd:Int}:(U cY.d cY.zero l).cZ [.agg [.int .i64 scnd,ints scfr,ints scto,U Pth.d Pth.zero sclf,U Pth.d Pth.zero scrt,U bm.d bm.zero dt,U (U bA.d bA.zero) [] tx,.int .i64 gd]]=U cY.d cY.zero (l++[⟨⟨scnd,scfr,scto,sclf,scrt⟩,dt,tx,gd⟩]):=kY (f:=cY.d) (x:=⟨⟨scnd,scfr,scto,sclf,scrt⟩,dt,tx,gd⟩)
attribute [go_sem high] Uq Kz
def bq(n lo hi:Int):Bool:=decide (lo<=n)&&decide (n<=hi)
def cN(n:Int)(f:List Int):Bool:=f.all fun y=>decide (0<=y)&&decide (y<n)
def Bb:List Nat:=[0,1,2,6]
def IJ:Sl:=ae Go.Proofs.Tryz.types Go.Proofs.Tryz.f112 Bb []
theorem QC:aD Go.Proofs.Tryz.prog Go.Proofs.Tryz.f112 Bb IJ 3=true:=by decide +kernel
theorem yV(n lo hi:Int):al Go.Proofs.Tryz.prog 112 [.v (.int .i64 n),.v (.int .i64 lo),.v (.int .i64 hi)] (.bool (bq n lo hi)):=by
 unfold bq;refine aC Go.Proofs.Tryz.func112 QC ?_;unfold IJ ae Bb;simp only[go_sem]
def An:List Nat:=[0,1,2,6]
def HT:Sl:=ae Go.Proofs.Tryz.types Go.Proofs.Tryz.f113 An []
theorem PN:aD Go.Proofs.Tryz.prog Go.Proofs.Tryz.f113 An HT 3=true:=by decide +kernel
theorem qa[Mode](n lo hi:Int):al Go.Proofs.Tryz.prog 113 [.v (.int .i64 n),.v (.int .i64 lo),.v (.int .i64 hi)] (.bool (bq n lo hi)):=by
 unfold bq;refine aC Go.Proofs.Tryz.func113 PN ?_;unfold HT ae An;simp only[go_sem]
def Bf:List Nat:=[0,1,4,5]
def IN:Sl:=ae Go.Proofs.Tryz.types Go.Proofs.Tryz.f80 Bf []
theorem QG:aD Go.Proofs.Tryz.prog Go.Proofs.Tryz.f80 Bf IN 2=true:=by decide +kernel
theorem qe(n:Int)(f:List Int):al Go.Proofs.Tryz.prog 80 [.v (.int .i64 n),.v (ints f)] (.bool (cN n f)):=by
 refine fD fun hw=>?_
 simp only[dj,fH] at hw;obtain⟨-,⟨hw,-⟩,-⟩:=hw;refine aC Go.Proofs.Tryz.func80 QG ?_;unfold IN ae Bf;simp only[go_sem];refine aJ [] (fun(i:Nat)=>[(3,.int .i64 i)]) (fun i=>i<=f.length/\cN n (f.take i)=true) (fun i=>f.length-i) 0 rfl ⟨Nat.zero_le _,rfl⟩ rfl ?_;rintro i ⟨hi,ha⟩;simp only[go_sem]
 (repeat'(first | (refine And.intro ?_ ?_) | intro))<;>(try(first | trivial | assumption | omega | (simp_all;done) | (simp_all;omega)))
 ·rename_i h1 h2
  symm;refine B3 (d:=0) h1 ?_;simp only[Bool.or_eq_true,decide_eq_true_eq] at h2;simp only[Bool.and_eq_false_iff,decide_eq_false_iff_not];omega
 ·rename_i h1 h2
  simp only[Bool.or_eq_false_iff,decide_eq_false_iff_not] at h2;exact⟨i+1,⟨by omega,B2 (d:=0) h1 ha (by simp only[Bool.and_eq_true,decide_eq_true_eq];omega)⟩,by omega,by rw[aH h1 hw]⟩
 ·rename_i h1
  exact(B1 (by omega) ha).symm
def AI:List Nat:=[0,1,4,6,7,8,9]
def Ig:Sl:=ae Go.Proofs.Tryz.types Go.Proofs.Tryz.f87 AI []
theorem Qa:aD Go.Proofs.Tryz.prog Go.Proofs.Tryz.f87 AI Ig 2=true:=by decide +kernel
theorem DX{y n:Int}(hn : -4611686018427387904<=n)(hn2:n<=9223372036854775807):bq y 0 (IntKind.i64.wrap (n-1))=(decide (0<=y)&&decide (y<n)):=by
 unfold bq;rw[kr ⟨by simp[IntKind.min,IntKind.signed,IntKind.bits];omega,by simp[IntKind.max,IntKind.signed,IntKind.bits];omega⟩];congr 1;exact decide_eq_decide.2 ⟨fun h=>by omega,fun h=>by omega⟩
theorem qc(n:Int)(f:List Int)(hn : 0<=n):al Go.Proofs.Tryz.prog 87 [.v (ints f),.v (.int .i64 n)] (.bool (cN n f)):=by
 refine fD fun hw=>?_
 simp only[dj,fH,D.dx,IntKind.has,IntKind.max,IntKind.signed,IntKind.bits] at hw;obtain⟨⟨hw,-⟩,⟨-,hn2⟩,-⟩:=hw;have hp:=fun y=>DX (y:=y) (n:=n) (by omega) (by simpa using hn2)
 refine aC Go.Proofs.Tryz.func87 Qa ?_;unfold Ig ae AI;simp only[go_sem];refine aJ [3] (fun(i:Nat)=>[(6,.int .i64 i)]) (fun i=>i<=f.length/\cN n (f.take i)=true) (fun i=>f.length-i) 0 rfl ⟨Nat.zero_le _,rfl⟩ rfl ?_;rintro i ⟨hi,ha⟩;simp only[go_sem];refine⟨fun h=>⟨h,af (qa _ _ _) rfl (.inl rfl) ?_⟩,fun h=>(B1 (by omega) ha).symm⟩;simp only[go_sem];rw[hp];refine⟨fun h2=>?_,fun h2=>⟨i+1,⟨by omega,B2 (d:=0) h ha (by simpa using h2)⟩,by omega,by rw[aH h hw]⟩⟩;exact(B3 (d:=0) h (by rw[Bool.not_eq_true'] at h2;exact h2)).symm
theorem oA(a:List Int):∀e∈a.map (D.int .i64),e.bR=true:=fun e he=>by
 obtain⟨x,_,rfl⟩:=List.mem_map.1 he;rfl
def Aj:List Nat:=[0,2]
def HP:Sl:=ae Go.Proofs.Tryz.types Go.Proofs.Tryz.f91 Aj []
theorem PJ:aD Go.Proofs.Tryz.prog Go.Proofs.Tryz.f91 Aj HP 1=true:=by decide +kernel
theorem mL(a:List Int)(hs:a.length<=1048576):al Go.Proofs.Tryz.prog 91 [.v (ints a)] (ints a):=by
 refine aC Go.Proofs.Tryz.func91 PJ ?_;unfold HP ae Aj;simp only[go_sem];exact⟨oA a,by rw[List.length_map];omega⟩
def Bg:List Nat:=[0,2]
def IP:Sl:=ae Go.Proofs.Tryz.types Go.Proofs.Tryz.f48 Bg []
theorem QH:aD Go.Proofs.Tryz.prog Go.Proofs.Tryz.f48 Bg IP 1=true:=by decide +kernel
theorem gP(a:List Int)(hs:a.length<=1048576):al Go.Proofs.Tryz.prog 48 [.v (ints a)] (ints a):=by
 refine aC Go.Proofs.Tryz.func48 QH ?_;unfold IP ae Bg;simp only[go_sem];exact⟨oA a,by rw[List.length_map];omega⟩
def Bh:List Nat:=[0,2,3,4]
def IQ:Sl:=ae Go.Proofs.Tryz.types Go.Proofs.Tryz.f130 Bh []
theorem QI:aD Go.Proofs.Tryz.prog Go.Proofs.Tryz.f130 Bh IQ 1=true:=by decide +kernel
theorem TK(a:List (List Int))(hs:b7 List.length a<=1048576):al Go.Proofs.Tryz.prog 130 [.v (aW a)] (aW a):=by
 have hl:a.length<=1048576:=by unfold b7 at hs;omega
 have hm:a.length<=maxLen:=by simp only[maxLen];omega
 refine aC Go.Proofs.Tryz.func130 QI ?_;unfold IQ ae Bh;simp only[go_sem];refine aJ [] (fun(i:Nat)=>[(3,.int .i64 i),(2,.o (aW (a.take i)))]) (fun i=>i<=a.length) (fun i=>a.length-i) 0 (by simp only[go_sem];rfl) (Nat.zero_le _) rfl ?_;rintro i hi;simp only[go_sem];refine⟨fun h=>⟨h,af (gP (a.getD i []) (Nat.le_trans (qT (cost:=List.length) h _) hs)) rfl (.inl (bJ _)) ?_⟩,fun h=>by rw[List.take_of_length_le (by omega)]⟩;simp only[go_sem];refine⟨by rw[List.length_take];omega,i+1,by omega,by omega,by rw[bT h [],aH h hm]⟩
def AK:List Nat:=[0,1,4,5]
def Ii:Sl:=ae Go.Proofs.Tryz.types Go.Proofs.Tryz.f34 AK []
theorem Qc:aD Go.Proofs.Tryz.prog Go.Proofs.Tryz.f34 AK Ii 2=true:=by decide +kernel
theorem uI(a:List (Int)):al Go.Proofs.Tryz.prog 34 [.v (ints a),.v (ints a)] (.bool true):=by
 refine fD fun hw=>?_
 simp only[dj,fH] at hw;have hm:=hw.1.1;refine aC Go.Proofs.Tryz.func34 Qc ?_;unfold Ii ae AK;simp only[go_sem];refine⟨fun h=>by simp at h,fun _=>?_⟩;refine aJ [] (fun(i:Nat)=>[(3,.int .i64 i)]) (fun i=>i<=a.length) (fun i=>a.length-i) 0 rfl (Nat.zero_le _) rfl ?_;rintro i hi;simp only[go_sem];exact fun h=>⟨h,h,fun h2=>by simp at h2,fun _=>⟨i+1,by omega,by omega,by rw[aH h hm]⟩⟩
end Go.D3
namespace Go.D3
open Go
set_option maxHeartbeats 4000000
set_option maxRecDepth 100000
def kc(k:Int)(a:List Int)(i:Nat):List Int:=((List.range i).map fun j:Nat=>k+j)++a.drop i
def dT(k:Int)(n:Nat):List Int:=(List.range n).map fun j:Nat=>k+j
theorem Ol{k:Int}{a:List Int}:kc k a 0=a:=by simp[kc]
theorem Oi{k:Int}{a:List Int}{i:Nat}(h:i<=a.length):(kc k a i).length=a.length:=by simp[kc];omega
theorem Oj{k:Int}{a:List Int}{i:Nat}(h:i<a.length):(kc k a i).set i (k+i)=kc k a (i+1):=by
 unfold kc;rw[List.set_append_right _ _ (by simp),List.range_succ,List.map_append];simp only[List.length_map,List.length_range,Nat.sub_self,List.map_cons,List.map_nil,List.append_assoc];congr 1;rw[List.drop_eq_getElem_cons h];rfl
theorem Oh{k:Int}{a:List Int}{i:Nat}(h:¬i<a.length)(hi:i<=a.length):kc k a i=dT k a.length:=by
 have:i=a.length:=by omega
 subst this;simp[kc,dT]
def AT:List Nat:=[0,1,4,5]
def Is:Sl:=ae Go.Proofs.Tryz.types Go.Proofs.Tryz.f38 AT []
theorem Ql:aD Go.Proofs.Tryz.prog Go.Proofs.Tryz.f38 AT Is 2=true:=by decide +kernel
theorem uK(a:List Int)(k:Int)(h0 : 0<=k)(h1:k+a.length<=4611686018427387900):al Go.Proofs.Tryz.prog 38 [.io (.o (ints a)) (.o (ints (dT k a.length))),.v (.int .i64 k)] (.int .i64 (k+a.length)):=by
 refine fD fun hw=>?_
 simp only[dj,fH] at hw;have hm:a.length<=maxLen:=hw.1.1;refine aC Go.Proofs.Tryz.func38 Ql ?_;unfold Is ae AT;simp only[go_sem];refine aJ [] (fun(i:Nat)=>[(1,.int .i64 (k+i)),(3,.int .i64 i),(4,.o (ints (kc k a i)))]) (fun i=>i<=a.length) (fun i=>a.length-i) 0 (by simp only[go_sem];rfl) (Nat.zero_le _) ?_ ?_
 ·simp only[go_sem,Ol];simp
 rintro i hi;simp only[go_sem];rw[Oi hi];refine⟨fun h=>⟨h,h,i+1,by omega,by omega,?_⟩,fun h=>⟨by rw[show i=a.length by omega],by rw[Oh h hi]⟩⟩;rw[Oj h,aH h hm,wrap_small (by omega) (by omega)];simp only[Int.natCast_add,Int.natCast_one,Int.add_assoc]
def wg(a:List (List Int)):Nat->Nat
 | 0=>0
 | i+1=>wg a i+(a.getD i []).length
def On(k:Int)(a:List (List Int)):List (List Int):=(List.range a.length).map fun j=>dT (k+wg a j) (a.getD j []).length
theorem EN{k:Int}{n:Nat}:(dT k n).length=n:=by simp[dT]
theorem Om{k:Int}{n i:Nat}(h:i<n):(dT k n).getD i 0=k+i:=by
 unfold dT;rw[List.getD_eq_getElem?_getD,List.getElem?_map,List.getElem?_range h];rfl
def AP:List Nat:=[0,1,4,5]
def Io:Sl:=ae Go.Proofs.Tryz.types Go.Proofs.Tryz.f42 AP []
theorem Qh:aD Go.Proofs.Tryz.prog Go.Proofs.Tryz.f42 AP Io 2=true:=by decide +kernel
theorem uJ(n:Nat)(k:Int)(h0 : 0<=k)(h1:k+n<=4611686018427387900):al Go.Proofs.Tryz.prog 42 [.v (ints (dT k n)),.v (.int .i64 k)] (.int .i64 (k+n)):=by
 refine fD fun hw=>?_
 simp only[dj,fH,EN] at hw;have hm:n<=maxLen:=hw.1.1;refine aC Go.Proofs.Tryz.func42 Qh ?_;unfold Io ae AP;simp only[go_sem];refine aJ [] (fun(i:Nat)=>[(1,.int .i64 (k+i)),(3,.int .i64 i)]) (fun i=>i<=n) (fun i=>n-i) 0 (by simp only[go_sem];rfl) (Nat.zero_le _) ?_ ?_
 ·simp only[go_sem];simp
 rintro i hi;simp only[go_sem];simp only[EN];refine⟨fun h=>⟨h,?_⟩,fun h=>by rw[show i=n by omega]⟩;rw[Om h];refine⟨fun hh=>by simp at hh,fun _=>⟨i+1,by omega,by omega,?_⟩⟩;rw[aH h hm,wrap_small (by omega) (by omega)];simp only[Int.natCast_add,Int.natCast_one,Int.add_assoc]
end Go.D3
