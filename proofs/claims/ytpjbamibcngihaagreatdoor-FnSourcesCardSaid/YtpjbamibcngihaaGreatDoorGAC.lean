/- CONTRACTS: split texts,both sides. -/
import Derived.Test.YtpjbamibcngihaaGreatDoorGAB
import Derived.Lib.SplitLaws
import Derived.Lib.Join
namespace Go.D3
open Go
set_option maxHeartbeats 4000000
set_option maxRecDepth 100000
structure ah where
 kd:Int
 fi:Int
 se:Int
 th:Int
def ah.cells(x:ah):List D:=[.int .i64 x.kd,.int .i64 x.fi,.int .i64 x.se,.int .i64 x.th]
def ah.d(x:ah):D:=.agg x.cells
def ah.zero:ah:=⟨0,0,0,0⟩
def ah.cost(_:ah):Nat:=0
theorem OL:D.slice (.agg [.int .i64 0,.int .i64 0,.int .i64 0,.int .i64 0]) []=ae ah.d ah.zero []:=rfl
theorem SB{n:Nat}:D.slice (.agg [.int .i64 0,.int .i64 0,.int .i64 0,.int .i64 0]) (List.replicate n (.agg [.int .i64 0,.int .i64 0,.int .i64 0,.int .i64 0]))=ae ah.d ah.zero (List.replicate n ah.zero):=by unfold ae;rw[List.map_replicate];rfl
theorem Pz{l:List ah}{i:Nat}{kd:Int}{fi:Int}{se:Int}{th:Int}:ea (.o (ae ah.d ah.zero l)) [(i,0)] 0 [.int .i64 kd,.int .i64 fi,.int .i64 se,.int .i64 th]=.o (ae ah.d ah.zero (l.set i ⟨kd,fi,se,th⟩)):=oI (n:=4) (fun _=>⟨_,rfl,rfl⟩) rfl
attribute [go_sem] ah.cells.eq_1 ah.d.eq_1 OL SB
theorem Tv{l:List ah}{kd:Int}{fi:Int}{se:Int}{th:Int}:(ae ah.d ah.zero l).dQ [.agg [.int .i64 kd,.int .i64 fi,.int .i64 se,.int .i64 th]]=ae ah.d ah.zero (l++[⟨kd,fi,se,th⟩]):=lK (f:=ah.d) (x:=⟨kd,fi,se,th⟩)
attribute [go_sem high] Pz Tv
theorem I3(x:ah):x.d.bl=true:=by simp only[ah.d,ah.cells,D.bl,dE,Bool.and_self]
structure U where
 st:Int
 ed:List (Int)
def U.cells(x:U):List D:=[.int .i64 x.st,ints x.ed]
def U.d(x:U):D:=.agg x.cells
def U.zero:U:=⟨0,[]⟩
def U.cost(x:U):Nat:=x.ed.length
theorem PE:D.slice (.agg [.int .i64 0,ints []]) []=ae U.d U.zero []:=rfl
theorem Sv{n:Nat}:D.slice (.agg [.int .i64 0,ints []]) (List.replicate n (.agg [.int .i64 0,ints []]))=ae U.d U.zero (List.replicate n U.zero):=by unfold ae;rw[List.map_replicate];rfl
theorem PK{l:List U}{i:Nat}{st:Int}{ed:List (Int)}:ea (.o (ae U.d U.zero l)) [(i,0)] 0 [.int .i64 st,ints ed]=.o (ae U.d U.zero (l.set i ⟨st,ed⟩)):=oI (n:=2) (fun _=>⟨_,rfl,rfl⟩) rfl
attribute [go_sem] U.cells.eq_1 U.d.eq_1 PE Sv
theorem Th{l:List U}{st:Int}{ed:List (Int)}:(ae U.d U.zero l).dQ [.agg [.int .i64 st,ints ed]]=ae U.d U.zero (l++[⟨st,ed⟩]):=lK (f:=U.d) (x:=⟨st,ed⟩)
attribute [go_sem high] PK Th
theorem I2(x:U):x.d.bl=true:=by simp only[U.d,U.cells,D.bl,dE,cW,Bool.and_self]
structure aa where
 nd:Int
 fr:List (Int)
 to:List (Int)
 lf:List (U)
 rt:List (U)
def aa.cells(x:aa):List D:=[.int .i64 x.nd,ints x.fr,ints x.to,ae U.d U.zero x.lf,ae U.d U.zero x.rt]
def aa.d(x:aa):D:=.agg x.cells
def aa.zero:aa:=⟨0,[],[],[],[]⟩
def aa.cost(x:aa):Nat:=x.fr.length+x.to.length+fy U.cost x.lf+fy U.cost x.rt
theorem OX:D.slice (.agg [.int .i64 0,ints [],ints [],ae U.d U.zero [],ae U.d U.zero []]) []=ae aa.d aa.zero []:=rfl
theorem S6{n:Nat}:D.slice (.agg [.int .i64 0,ints [],ints [],ae U.d U.zero [],ae U.d U.zero []]) (List.replicate n (.agg [.int .i64 0,ints [],ints [],ae U.d U.zero [],ae U.d U.zero []]))=ae aa.d aa.zero (List.replicate n aa.zero):=by unfold ae;rw[List.map_replicate];rfl
theorem OP{l:List aa}{i:Nat}{nd:Int}{fr:List (Int)}{to:List (Int)}{lf:List (U)}{rt:List (U)}:ea (.o (ae aa.d aa.zero l)) [(i,0)] 0 [.int .i64 nd,ints fr,ints to,ae U.d U.zero lf,ae U.d U.zero rt]=.o (ae aa.d aa.zero (l.set i ⟨nd,fr,to,lf,rt⟩)):=oI (n:=5) (fun _=>⟨_,rfl,rfl⟩) rfl
attribute [go_sem] aa.cells.eq_1 aa.d.eq_1 OX S6
theorem Tu{l:List aa}{nd:Int}{fr:List (Int)}{to:List (Int)}{lf:List (U)}{rt:List (U)}:(ae aa.d aa.zero l).dQ [.agg [.int .i64 nd,ints fr,ints to,ae U.d U.zero lf,ae U.d U.zero rt]]=ae aa.d aa.zero (l++[⟨nd,fr,to,lf,rt⟩]):=lK (f:=aa.d) (x:=⟨nd,fr,to,lf,rt⟩)
attribute [go_sem high] OP Tu
theorem UI(x:aa):x.d.bl=true:=by simp only[aa.d,aa.cells,D.bl,dE,cW,kP I2,Bool.and_self]
structure af where
 sz:List (Int)
 mp:List (List (Int))
def af.cells(x:af):List D:=[ints x.sz,aK x.mp]
def af.d(x:af):D:=.agg x.cells
def af.zero:af:=⟨[],[]⟩
def af.cost(x:af):Nat:=x.sz.length+fy List.length x.mp
theorem P9:D.slice (.agg [ints [],aK []]) []=ae af.d af.zero []:=rfl
theorem Tx{n:Nat}:D.slice (.agg [ints [],aK []]) (List.replicate n (.agg [ints [],aK []]))=ae af.d af.zero (List.replicate n af.zero):=by unfold ae;rw[List.map_replicate];rfl
theorem PF{l:List af}{i:Nat}{sz:List (Int)}{mp:List (List (Int))}:ea (.o (ae af.d af.zero l)) [(i,0)] 0 [ints sz,aK mp]=.o (ae af.d af.zero (l.set i ⟨sz,mp⟩)):=oI (n:=2) (fun _=>⟨_,rfl,rfl⟩) rfl
attribute [go_sem] af.cells.eq_1 af.d.eq_1 P9 Tx
theorem R6{l:List af}{sz:List (Int)}{mp:List (List (Int))}:(ae af.d af.zero l).dQ [.agg [ints sz,aK mp]]=ae af.d af.zero (l++[⟨sz,mp⟩]):=lK (f:=af.d) (x:=⟨sz,mp⟩)
attribute [go_sem high] PF R6
theorem uf(x:af):x.d.bl=true:=by simp only[af.d,af.cells,D.bl,dE,cW,jP,Bool.and_self]
structure bT where
 sc:aa
 dt:List (af)
 tx:List (List (ah))
 gd:Int
def bT.cells(x:bT):List D:=[.int .i64 x.sc.nd,ints x.sc.fr,ints x.sc.to,ae U.d U.zero x.sc.lf,ae U.d U.zero x.sc.rt,ae af.d af.zero x.dt,ae (ae ah.d ah.zero) [] x.tx,.int .i64 x.gd]
def bT.d(x:bT):D:=.agg x.cells
def bT.zero:bT:=⟨aa.zero,[],[],0⟩
def bT.cost(x:bT):Nat:=aa.cost x.sc+fy af.cost x.dt+fy (fy ah.cost) x.tx
theorem PX:D.slice (.agg [.int .i64 0,ints [],ints [],ae U.d U.zero [],ae U.d U.zero [],ae af.d af.zero [],ae (ae ah.d ah.zero) [] [],.int .i64 0]) []=ae bT.d bT.zero []:=rfl
theorem Sz{n:Nat}:D.slice (.agg [.int .i64 0,ints [],ints [],ae U.d U.zero [],ae U.d U.zero [],ae af.d af.zero [],ae (ae ah.d ah.zero) [] [],.int .i64 0]) (List.replicate n (.agg [.int .i64 0,ints [],ints [],ae U.d U.zero [],ae U.d U.zero [],ae af.d af.zero [],ae (ae ah.d ah.zero) [] [],.int .i64 0]))=ae bT.d bT.zero (List.replicate n bT.zero):=by unfold ae;rw[List.map_replicate];rfl
theorem Px{l:List bT}{i:Nat}{scnd:Int}{scfr:List (Int)}{scto:List (Int)}{sclf:List (U)}{scrt:List (U)}{dt:List (af)}{tx:List (List (ah))}{gd:Int}:ea (.o (ae bT.d bT.zero l)) [(i,0)] 0 [.int .i64 scnd,ints scfr,ints scto,ae U.d U.zero sclf,ae U.d U.zero scrt,ae af.d af.zero dt,ae (ae ah.d ah.zero) [] tx,.int .i64 gd]=.o (ae bT.d bT.zero (l.set i ⟨⟨scnd,scfr,scto,sclf,scrt⟩,dt,tx,gd⟩)):=oI (n:=8) (fun _=>⟨_,rfl,rfl⟩) rfl
attribute [go_sem] bT.cells.eq_1 bT.d.eq_1 PX Sz
theorem Sq{l:List bT}{scnd:Int}{scfr:List (Int)}{scto:List (Int)}{sclf:List (U)}{scrt:List (U)}{dt:List (af)}{tx:List (List (ah))}{gd:Int}:(ae bT.d bT.zero l).dQ [.agg [.int .i64 scnd,ints scfr,ints scto,ae U.d U.zero sclf,ae U.d U.zero scrt,ae af.d af.zero dt,ae (ae ah.d ah.zero) [] tx,.int .i64 gd]]=ae bT.d bT.zero (l++[⟨⟨scnd,scfr,scto,sclf,scrt⟩,dt,tx,gd⟩]):=lK (f:=bT.d) (x:=⟨⟨scnd,scfr,scto,sclf,scrt⟩,dt,tx,gd⟩)
attribute [go_sem high] Px Sq
def aL(n lo hi:Int):Bool:=decide (lo<=n)&&decide (n<=hi)
def bU(n:Int)(f:List Int):Bool:=f.all fun y=>decide (0<=y)&&decide (y<n)
def xH:List Nat:=[0,1,2,6]
def DU:Sl:=ak Go.Proofs.Tryz.types Go.Proofs.Tryz.f31 xH []
theorem M3:aI Go.Proofs.Tryz.prog Go.Proofs.Tryz.f31 xH DU 3=true:=by decide +kernel
theorem jK(n lo hi:Int):aC Go.Proofs.Tryz.prog 31 [.v (.int .i64 n),.v (.int .i64 lo),.v (.int .i64 hi)] (.bool (aL n lo hi)):=by
 unfold aL;refine aT Go.Proofs.Tryz.func31 M3 ?_;unfold DU ak xH;simp only[go_sem]
def w9:List Nat:=[0,1,2,6]
def C6:Sl:=ak Go.Proofs.Tryz.types Go.Proofs.Tryz.f34 w9 []
theorem Mg:aI Go.Proofs.Tryz.prog Go.Proofs.Tryz.f34 w9 C6 3=true:=by decide +kernel
theorem iS(n lo hi:Int):aC Go.Proofs.Tryz.prog 34 [.v (.int .i64 n),.v (.int .i64 lo),.v (.int .i64 hi)] (.bool (aL n lo hi)):=by
 unfold aL;refine aT Go.Proofs.Tryz.func34 Mg ?_;unfold C6 ak w9;simp only[go_sem]
def xq:List Nat:=[0,1,4,5]
def DL:Sl:=ak Go.Proofs.Tryz.types Go.Proofs.Tryz.f143 xq []
theorem MJ:aI Go.Proofs.Tryz.prog Go.Proofs.Tryz.f143 xq DL 2=true:=by decide +kernel
theorem qf(n:Int)(f:List Int):aC Go.Proofs.Tryz.prog 143 [.v (.int .i64 n),.v (ints f)] (.bool (bU n f)):=by
 refine fe fun hw=>?_
 simp only[dM,gf] at hw;obtain⟨-,⟨hw,-⟩,-⟩:=hw;refine aT Go.Proofs.Tryz.func143 MJ ?_;unfold DL ak xq;simp only[go_sem];refine aG [] (fun(i:Nat)=>[(3,.int .i64 i)]) (fun i=>i<=f.length/\bU n (f.take i)=true) (fun i=>f.length-i) 0 rfl ⟨Nat.zero_le _,rfl⟩ rfl ?_;rintro i ⟨hi,ha⟩;simp only[go_sem]
 (repeat'(first | (refine And.intro ?_ ?_) | intro))<;>(try(first | trivial | assumption | omega | (simp_all;done) | (simp_all;omega)))
 ·rename_i h1 h2
  symm;refine Hj (d:=0) h1 ?_;simp only[Bool.or_eq_true,decide_eq_true_eq] at h2;simp only[Bool.and_eq_false_iff,decide_eq_false_iff_not];omega
 ·rename_i h1 h2
  simp only[Bool.or_eq_false_iff,decide_eq_false_iff_not] at h2;exact⟨i+1,⟨by omega,GQ (d:=0) h1 ha (by simp only[Bool.and_eq_true,decide_eq_true_eq];omega)⟩,by omega,by rw[aN h1 hw]⟩
 ·rename_i h1
  exact(HK (by omega) ha).symm
def xE:List Nat:=[0,1,4,6,7,8,9]
def DG:Sl:=ak Go.Proofs.Tryz.types Go.Proofs.Tryz.f74 xE []
theorem MK:aI Go.Proofs.Tryz.prog Go.Proofs.Tryz.f74 xE DG 2=true:=by decide +kernel
theorem QN{y n:Int}(hn : -4611686018427387904<=n)(hn2:n<=9223372036854775807):aL y 0 (IntKind.i64.wrap (n-1))=(decide (0<=y)&&decide (y<n)):=by
 unfold aL;rw[gT ⟨by simp[IntKind.min,IntKind.signed,IntKind.bits];omega,by simp[IntKind.max,IntKind.signed,IntKind.bits];omega⟩];congr 1;exact decide_eq_decide.2 ⟨fun h=>by omega,fun h=>by omega⟩
theorem sd(n:Int)(f:List Int)(hn : 0<=n):aC Go.Proofs.Tryz.prog 74 [.v (ints f),.v (.int .i64 n)] (.bool (bU n f)):=by
 refine fe fun hw=>?_
 simp only[dM,gf,D.dh,IntKind.has,IntKind.max,IntKind.signed,IntKind.bits] at hw;obtain⟨⟨hw,-⟩,⟨-,hn2⟩,-⟩:=hw;have hp:=fun y=>QN (y:=y) (n:=n) (by omega) (by simpa using hn2)
 refine aT Go.Proofs.Tryz.func74 MK ?_;unfold DG ak xE;simp only[go_sem];refine aG [3] (fun(i:Nat)=>[(6,.int .i64 i)]) (fun i=>i<=f.length/\bU n (f.take i)=true) (fun i=>f.length-i) 0 rfl ⟨Nat.zero_le _,rfl⟩ rfl ?_;rintro i ⟨hi,ha⟩;simp only[go_sem];refine⟨fun h=>⟨h,ax (iS _ _ _) rfl (.inl rfl) ?_⟩,fun h=>(HK (by omega) ha).symm⟩;simp only[go_sem];rw[hp];refine⟨fun h2=>?_,fun h2=>⟨i+1,⟨by omega,GQ (d:=0) h ha (by simpa using h2)⟩,by omega,by rw[aN h hw]⟩⟩;exact(Hj (d:=0) h (by rw[Bool.not_eq_true'] at h2;exact h2)).symm
theorem oN(a:List Int):∀e∈a.map (D.int .i64),e.cF=true:=fun e he=>by
 obtain⟨x,_,rfl⟩:=List.mem_map.1 he;rfl
def xK:List Nat:=[0,2]
def DT:Sl:=ak Go.Proofs.Tryz.types Go.Proofs.Tryz.f91 xK []
theorem MV:aI Go.Proofs.Tryz.prog Go.Proofs.Tryz.f91 xK DT 1=true:=by decide +kernel
theorem C3(a:List Int)(hs:a.length<=1048576):aC Go.Proofs.Tryz.prog 91 [.v (ints a)] (ints a):=by
 refine aT Go.Proofs.Tryz.func91 MV ?_;unfold DT ak xK;simp only[go_sem];exact⟨oN a,by rw[List.length_map];omega⟩
def xG:List Nat:=[0,2]
def DN:Sl:=ak Go.Proofs.Tryz.types Go.Proofs.Tryz.f96 xG []
theorem Mx:aI Go.Proofs.Tryz.prog Go.Proofs.Tryz.f96 xG DN 1=true:=by decide +kernel
theorem iy(a:List Int)(hs:a.length<=1048576):aC Go.Proofs.Tryz.prog 96 [.v (ints a)] (ints a):=by
 refine aT Go.Proofs.Tryz.func96 Mx ?_;unfold DN ak xG;simp only[go_sem];exact⟨oN a,by rw[List.length_map];omega⟩
def xA:List Nat:=[0,2,3,5,9,10,11]
def DJ:Sl:=ak Go.Proofs.Tryz.types Go.Proofs.Tryz.f92 xA []
theorem MM:aI Go.Proofs.Tryz.prog Go.Proofs.Tryz.f92 xA DJ 1=true:=by decide +kernel
theorem Mi(a:List (List Int))(hs:fy List.length a<=1048576):aC Go.Proofs.Tryz.prog 92 [.v (aK a)] (aK a):=by
 have hl:a.length<=1048576:=by unfold fy at hs;omega
 have hm:a.length<=maxLen:=by simp only[maxLen];omega
 refine aT Go.Proofs.Tryz.func92 MM ?_;unfold DJ ak xA;simp only[go_sem];refine⟨⟨by omega,by omega⟩,?_⟩;refine aG [3] (fun(i:Nat)=>[(6,.int .i64 i),(2,.o (aK (a.take i)))]) (fun i=>i<=a.length) (fun i=>a.length-i) 0 (by simp only[go_sem];rfl) (Nat.zero_le _) rfl ?_;rintro i hi;simp only[go_sem];refine⟨fun h=>⟨h,ax (C3 (a.getD i []) (Nat.le_trans (FK (cost:=List.length) h _) hs)) rfl (.inl (cW _)) ?_⟩,fun h=>by rw[List.take_of_length_le (by omega)]⟩;simp only[go_sem];refine⟨by rw[List.length_take];omega,i+1,by omega,by omega,by rw[cV h [],aN h hm]⟩
def wV:List Nat:=[0,2,3,4]
def Dr:Sl:=ak Go.Proofs.Tryz.types Go.Proofs.Tryz.f97 wV []
theorem LZ:aI Go.Proofs.Tryz.prog Go.Proofs.Tryz.f97 wV Dr 1=true:=by decide +kernel
theorem Cl(a:List (List Int))(hs:fy List.length a<=1048576):aC Go.Proofs.Tryz.prog 97 [.v (aK a)] (aK a):=by
 have hl:a.length<=1048576:=by unfold fy at hs;omega
 have hm:a.length<=maxLen:=by simp only[maxLen];omega
 refine aT Go.Proofs.Tryz.func97 LZ ?_;unfold Dr ak wV;simp only[go_sem];refine aG [] (fun(i:Nat)=>[(3,.int .i64 i),(2,.o (aK (a.take i)))]) (fun i=>i<=a.length) (fun i=>a.length-i) 0 (by simp only[go_sem];rfl) (Nat.zero_le _) rfl ?_;rintro i hi;simp only[go_sem];refine⟨fun h=>⟨h,ax (iy (a.getD i []) (Nat.le_trans (FK (cost:=List.length) h _) hs)) rfl (.inl (cW _)) ?_⟩,fun h=>by rw[List.take_of_length_le (by omega)]⟩;simp only[go_sem];refine⟨by rw[List.length_take];omega,i+1,by omega,by omega,by rw[cV h [],aN h hm]⟩
def xz:List Nat:=[0,1,4,5]
def DP:Sl:=ak Go.Proofs.Tryz.types Go.Proofs.Tryz.f98 xz []
theorem MA:aI Go.Proofs.Tryz.prog Go.Proofs.Tryz.f98 xz DP 2=true:=by decide +kernel
theorem Mu(l:List Int)(x:Int)(hm:l.length<=1048576):aC Go.Proofs.Tryz.prog 98 [.v (ints l),.v (.int .i64 x)] (.bool (l.contains x)):=by
 refine aT Go.Proofs.Tryz.func98 MA ?_;unfold DP ak xz;simp only[go_sem];refine aG [] (fun(i:Nat)=>[(3,.int .i64 i)]) (fun i=>i<=l.length/\(l.take i).contains x=false) (fun i=>l.length-i) 0 (by simp only[go_sem];rfl) ⟨Nat.zero_le _,rfl⟩ rfl ?_;rintro i ⟨hi,hn⟩;simp only[go_sem];refine⟨fun h=>⟨h,fun h2=>?_,fun h2=>⟨i+1,⟨h,?_⟩,by omega,by rw[aN h (by simp only[maxLen];omega)]⟩⟩,fun h=>by rw[show i=l.length by omega,List.take_length] at hn;exact hn.symm⟩
 ·have h2:l.getD i 0=x:=by simpa using h2
  rw[aS h] at h2;exact(List.contains_iff_mem.2 (h2▸List.getElem_mem _)).symm
 ·have h2:l.getD i 0≠x:=by simpa using h2
  rw[cV h 0,List.contains_append,hn,Bool.false_or];generalize l.getD i 0=v at h2;simp;exact fun e=>h2 e.symm
def xn:List Nat:=[0,1,2,6]
def Dv:Sl:=ak Go.Proofs.Tryz.types Go.Proofs.Tryz.f77 xn []
theorem Mh:aI Go.Proofs.Tryz.prog Go.Proofs.Tryz.f77 xn Dv 3=true:=by decide +kernel
theorem Lk(l:List Int)(m n:Int)(hn : 0<=n):aC Go.Proofs.Tryz.prog 77 [.v (ints l),.v (.int .i64 m),.v (.int .i64 n)] (.bool ((l.length:Int) == m&&bU n l)):=by
 refine aT Go.Proofs.Tryz.func77 Mh ?_;unfold Dv ak xn;simp only[go_sem];refine bG (fun _=>sd n l hn) rfl (fun h=>h) (.inl rfl) ?_;simp only[go_sem]
end Go.D3
namespace Go.D3
open Go
set_option maxRecDepth 100000
theorem QI{L:List D}{i:Nat}{z y:D}(hz:z.isAgg=false):(L.set i .dead).set i (dz ((L.set i .dead).getD i z) 0 y)=L.set i y:=by
 have:dz ((L.set i .dead).getD i z) 0 y=y:=by
  rw[List.getD_eq_getElem?_getD];by_cases h:i<L.length
  ·rw[List.getElem?_set_self h];rfl
  ·rw[List.getElem?_eq_none (by simpa using h)]
   simp only[Option.getD_none];cases z<;>first | rfl | cases hz
 rw[this,List.set_set]
end Go.D3
namespace Go.D3
open Go
def mw(b:UInt8):List (List UInt8)->List (List UInt8)
 | x::l=>(b::x)::l
 | []=>[[b]]
def mE(s:List UInt8):List (List UInt8)->List (List UInt8)
 | x::l=>(s++x)::l
 | []=>[s]
def aR(p:List UInt8):Nat->List UInt8->List (List UInt8)
 | _,[]=>[[]]
 | k+1,_::r=>aR p k r
 | 0,b::r=>if p.isPrefixOf (b::r)=true then[]::aR p (p.length-1) r else mw b (aR p 0 r)
theorem nI{p:List UInt8}{k:Nat}:aR p k []=[[]]:=by cases k<;>rfl
theorem o7{p:List UInt8}:∀{k:Nat}{s:List UInt8},aR p k s≠[]
 | k,[]=>by rw[nI];simp
 | k+1,_::r=>by rw[aR];exact o7
 | 0,b::r=>by
  rw[aR];split
  ·simp
  ·cases aR p 0 r<;>simp[mw]
theorem zg{p:List UInt8}:∀{k:Nat}{s:List UInt8},k<=s.length->aR p k s=aR p 0 (s.drop k)
 | 0,_,_=>rfl
 | k+1,[],h=>by simp at h
 | k+1,_::r,h=>by rw[aR,List.drop_succ_cons];exact zg (by simpa using h)
theorem zX{p s:List UInt8}(h:p.isPrefixOf s=true):p.length<=s.length:=(List.isPrefixOf_iff_prefix.1 h).length_le
theorem HT{p s:List UInt8}(hp:p≠[])(h:p.isPrefixOf s=true):aR p 0 s=[]::aR p 0 (s.drop p.length):=by
 have hl:=zX h;cases s with
 | nil=>cases p with
  | nil=>exact absurd rfl hp
  | cons c q=>simp at hl
 | cons b r =>
  cases p with
  | nil=>exact absurd rfl hp
  | cons c q =>
   rw[aR,if_pos h,zg (by simpa using hl)];simp
theorem qy{p r:List UInt8}{b:UInt8}(h:p.isPrefixOf (b::r)=false):aR p 0 (b::r)=mw b (aR p 0 r):=by
 rw[aR,if_neg (by rw[h];simp)]
theorem zy{l:List (List UInt8)}(h:l≠[]):mE [] l=l:=by cases l<;>simp_all[mE]
theorem Pf{s:List UInt8}{b:UInt8}{l:List (List UInt8)}:mE s (mw b l)=mE (s++[b]) l:=by cases l<;>simp[mE,mw]
theorem yN{p:List UInt8}:∀{s:List UInt8},s.length<p.length->aR p 0 s=[s]
 | [],_=>nI
 | b::r,h=>by
  have:p.isPrefixOf (b::r)=false:=by
   cases hc:p.isPrefixOf (b::r) with
   | false=>rfl
   | true=>have:=zX hc;omega
  rw[qy this,yN (by simp only[List.length_cons] at h;omega)];rfl
theorem NS{p:List UInt8}(hp:p≠[]):∀(n:Nat){s:List UInt8},s.length<=n->Lib.splitK p 0 (Lib.count s p) s=aR p 0 s:=by
 intro n;induction n with
 | zero =>
  intro s h;have:s=[]:=List.length_eq_zero_iff.1 (by omega);subst this
  have hi:Lib.index [] p=-1:=by cases p with
   | nil=>exact absurd rfl hp
   | cons c q=>rfl
  rw[Lib.count_miss hi,nI];rfl
 | succ n ih =>
  intro s h;cases hc:p.isPrefixOf s with
  | true =>
   have hi:Lib.index s p=((0:Nat):Int):=by cases s with
    | nil=>cases p with
     | nil=>rfl
     | cons c q=>simp at hc
    | cons b r=>rw[Lib.index,hc];rfl
   have hl:=zX hc;have hp1 : 1<=p.length:=by cases p<;>simp_all
   rw[Lib.count_hit hp hi,Nat.add_comm,Lib.splitK,if_neg (by rw[hi];decide),HT hp hc,hi];simp only[Int.toNat_natCast,Nat.zero_add,Nat.add_zero,List.take_zero];rw[ih (by rw[List.length_drop];omega)]
  | false =>
   cases s with
   | nil =>
    have hi:Lib.index [] p=-1:=by cases p with
     | nil=>exact absurd rfl hp
     | cons c q=>rfl
    rw[Lib.count_miss hi,nI];rfl
   | cons b r =>
    have hix:Lib.index (b::r) p=if Lib.index r p == -1 then -1 else Lib.index r p+1:=by rw[Lib.index,hc];simp
    rw[qy hc,<-ih (s:=r) (by simpa using h)];by_cases hm:Lib.index r p=-1
    ·rw[Lib.count_miss hm,Lib.count_miss (by rw[hix,if_pos (beq_iff_eq.2 hm)])];rfl
    ·have hge:=Lib.index_ge r p
     obtain⟨j,hj⟩:∃j:Nat,Lib.index r p=j:=⟨(Lib.index r p).toNat,by omega⟩;have hix':Lib.index (b::r) p=((j+1:Nat):Int):=by rw[hix,if_neg (fun e=>hm (beq_iff_eq.1 e)),hj];rfl
     rw[Lib.count_hit hp hj,Lib.count_hit hp hix',Nat.add_comm 1,Nat.add_comm 1,Lib.splitK,Lib.splitK,if_neg (by rw[hix'];simp;omega),if_neg (by rw[hj];simp),hix',hj];have e1:(b::r).drop (j+1+p.length)=r.drop (j+p.length):=by rw[show j+1+p.length=(j+p.length)+1 by omega,List.drop_succ_cons]
     simp only[Int.toNat_natCast,e1,Nat.add_zero,List.take_succ_cons,mw]
theorem Al{p:List UInt8}(hp:p≠[]){r:List UInt8}:∀{a:List UInt8},(∀i,i<a.length->p.isPrefixOf ((a++p++r).drop i)=false)->aR p 0 (a++p++r)=a::aR p 0 r
 | [],_=>by
  rw[List.nil_append,HT hp (List.isPrefixOf_iff_prefix.2 (List.prefix_append _ _)),List.drop_left]
 | b::a,h=>by
  have h0:=h 0 (by simp);have:=Al hp (r:=r) (a:=a) fun i hi=>by have:=h (i+1) (by simp;omega);simpa using this
  rw[List.cons_append,List.cons_append,qy (by simpa using h0),this];rfl
theorem z6{p:List UInt8}:∀{a:List UInt8},(∀i,i<a.length->p.isPrefixOf (a.drop i)=false)->aR p 0 a=[a]
 | [],_=>nI
 | b::a,h=>by
  have h0:=h 0 (by simp);have:=z6 (p:=p) (a:=a) fun i hi=>by have:=h (i+1) (by simp;omega);simpa using this
  rw[qy (by simpa using h0),this];rfl
theorem oY{c:UInt8}{s:List UInt8}:[c].isPrefixOf s=(s.head? == some c):=by
 cases s<;>simp[List.isPrefixOf,Bool.beq_comm]
theorem nB{c:UInt8}{a r:List UInt8}(h:c ∉ a):aR [c] 0 (a++[c]++r)=a::aR [c] 0 r:=by
 refine Al (by simp) fun i hi=>?_
 rw[oY,List.append_assoc,List.drop_append_of_le_length (by omega),List.drop_eq_getElem_cons hi];simp only[List.cons_append,List.head?_cons];rw[Bool.eq_false_iff];intro hh;simp only[beq_iff_eq,Option.some.injEq] at hh;exact h (hh▸List.getElem_mem hi)
theorem qA{c:UInt8}{a:List UInt8}(h:c ∉ a):aR [c] 0 a=[a]:=by
 refine z6 fun i hi=>?_
 rw[oY,List.drop_eq_getElem_cons hi,List.head?_cons,Bool.eq_false_iff];intro hh;simp only[beq_iff_eq,Option.some.injEq] at hh;exact h (hh▸List.getElem_mem hi)
theorem Ho{x c y:UInt8}{a r:List UInt8}(hx:x≠c)(h:c ∉ a):aR [x,c,y] 0 (a++[x,c,y]++r)=a::aR [x,c,y] 0 r:=by
 refine Al (by simp) fun i hi=>?_
 rw[Bool.eq_false_iff];intro hh;obtain⟨t,ht⟩:=List.isPrefixOf_iff_prefix.1 hh;have h1:((a++[x,c,y]++r).drop i)[1]?=some c:=by rw[<-ht];rfl
 rw[List.getElem?_drop,List.append_assoc] at h1;by_cases hl:i+1<a.length
 ·rw[List.getElem?_append_left hl,List.getElem?_eq_getElem hl] at h1
  exact h (by injection h1 with h1;rw[<-h1];exact List.getElem_mem _)
 ·rw[List.getElem?_append_right (by omega),show i+1-a.length=0 by omega] at h1
  exact hx (by simpa using h1)
theorem RR{x c y:UInt8}{a:List UInt8}(h:c ∉ a):aR [x,c,y] 0 a=[a]:=by
 refine z6 fun i hi=>?_
 rw[Bool.eq_false_iff];intro hh;obtain⟨t,ht⟩:=List.isPrefixOf_iff_prefix.1 hh;have h1:(a.drop i)[1]?=some c:=by rw[<-ht];rfl
 rw[List.getElem?_drop] at h1;exact h (List.mem_of_getElem? h1)
theorem nC{x y sep:List UInt8}{l:List (List UInt8)}:Lib.join (x::y::l) sep=x++sep++Lib.join (y::l) sep:=by
 rw[Lib.join_cons,Lib.join_cons];unfold Lib.joinTail;simp
theorem Gk{c:UInt8}:∀{l:List (List UInt8)},l≠[]->(∀x∈l,c ∉ x)->aR [c] 0 (Lib.join l [c])=l
 | [],h,_=>absurd rfl h
 | [x],_,h=>by rw[Lib.join_one];exact qA (h x (by simp))
 | x::y::l,_,h=>by
  rw[nC,nB (h x (by simp)),Gk (by simp) fun z hz=>h z (List.mem_cons_of_mem _ hz)]
theorem lS{p:List UInt8}:∀{k:Nat}{s:List UInt8},(aR p k s).length<=s.length+1
 | k,[]=>by rw[nI];simp
 | k+1,_::r=>by rw[aR];have:=lS (p:=p) (k:=k) (s:=r);simp;omega
 | 0,b::r=>by
  rw[aR];have h1:=lS (p:=p) (k:=p.length-1) (s:=r);have h2:=lS (p:=p) (k:=0) (s:=r);split
  ·simp;omega
  ·cases hh:aR p 0 r with
   | nil=>simp[mw]
   | cons x l=>rw[hh] at h2;simp[mw] at h2|-;omega
theorem gG{p:List UInt8}:∀{k:Nat}{s x:List UInt8},x∈aR p k s->x.length<=s.length
 | k,[],x,h=>by rw[nI] at h;simp at h;subst h;simp
 | k+1,_::r,x,h=>by rw[aR] at h;have:=gG h;simp;omega
 | 0,b::r,x,h=>by
  rw[aR] at h;split at h
  ·rcases List.mem_cons.1 h with rfl | h
   ·simp
   ·have:=gG h;simp;omega
  ·cases hh:aR p 0 r with
   | nil=>exact absurd hh o7
   | cons y l =>
    rw[hh] at h;rcases List.mem_cons.1 h with rfl | h
    ·have:=gG (p:=p) (k:=0) (s:=r) (x:=y) (by rw[hh];simp);simp;omega
    ·have:=gG (p:=p) (k:=0) (s:=r) (x:=x) (by rw[hh];simp[h]);simp;omega
end Go.D3
namespace Go.D3
open Go
set_option maxRecDepth 100000
attribute [go_sem] bytesOf.eq_1 bytesOf.eq_2
theorem HE(n:Nat)(h:n<18446744073709551616):(Lib.decDigits n).length<=20:=by rw[Lib.decDigits_length];exact Lib.nDigits_le20 n h
theorem uu{n:Nat}(h:¬n<10):Lib.decDigits n=Lib.decDigits (n / 10)++[UInt8.ofNat (48+n % 10)]:=by rw[Lib.decDigits,dif_neg h]
theorem GK{m:Nat}(h:m<10):(IntKind.u8.wrap (IntKind.i64.wrap (48+(m:Int)))).toNat=48+m:=by
 rw[wrap_small (by omega) (by omega),gT ⟨by simp[IntKind.min,IntKind.signed];omega,by simp[IntKind.max,IntKind.signed,IntKind.bits];omega⟩];omega
def xF:List Nat:=[0,2]
def DR:Sl:=ak Go.Proofs.Tryz.types Go.Proofs.Tryz.f55 xF []
theorem MF:aI Go.Proofs.Tryz.prog Go.Proofs.Tryz.f55 xF DR 1=true:=by decide +kernel
theorem Mt(n:Nat)(hn:n<=4611686018427387900):aC Go.Proofs.Tryz.prog 55 [.v (.int .i64 n)] (.str (Lib.decDigits n)):=by
 induction n using Nat.strongRecOn with
 | _ n ih =>
  refine aT Go.Proofs.Tryz.func55 MF ?_;unfold DR ak xF;simp only[go_sem];refine⟨fun h=>?_,fun h=>?_⟩
  ·have h:n<10:=by omega
   rw[GK h,Lib.decDigits_one h]
  ·have h:¬n<10:=by omega
   have e1:IntKind.i64.wrap ((n:Int).tdiv 10)=((n / 10:Nat):Int):=by
    rw[Int.tdiv_eq_ediv_of_nonneg (by omega),wrap_small (by omega) (by omega)];rfl
   rw[e1];refine⟨by decide,ax (ih (n / 10) (by omega) (by omega)) rfl (.inl rfl) ?_⟩;simp only[go_sem];have e2:((n:Int).tmod 10)=((n % 10:Nat):Int):=by rw[Int.tmod_eq_emod_of_nonneg (by omega)];rfl
   rw[e2,GK (by omega)];have:=HE (n / 10) (by omega);refine⟨by decide,by simp only[maxLen];omega,?_⟩;rw[uu h]
end Go.D3
namespace Go.D3
open Go
set_option maxRecDepth 100000
theorem Rr{s:List UInt8}{at' i:Nat}(h:at'<=i)(hi:i<s.length):(s.take i).drop at'++[s.getD i 0]=(s.take (i+1)).drop at':=by
 rw[aS hi,List.take_succ_eq_append_getElem hi,List.drop_append_of_le_length (by rw[List.length_take];omega)]
theorem zO{s:List UInt8}{i j:Nat}(h:i<=j):(s.take i).drop j=[]:=List.drop_eq_nil_of_le (by rw[List.length_take];omega)
theorem drop_cons{s:List UInt8}{i:Nat}(hi:i<s.length):s.drop i=s.getD i 0::s.drop (i+1):=by rw[List.drop_eq_getElem_cons hi,aS hi]
def gq(p s:List UInt8)(i a:Nat):List (List UInt8):=if a<=i then mE ((s.take i).drop a) (aR p 0 (s.drop i)) else aR p (a-i) (s.drop i)
theorem El{p s:List UInt8}{i:Nat}:gq p s i i=aR p 0 (s.drop i):=by unfold gq;rw[if_pos (Nat.le_refl _),zO (Nat.le_refl _),zy o7]
theorem FA{p s:List UInt8}{i a:Nat}(hp : 0<p.length)(hi:i<s.length)(ha:a<=i)(h:p.isPrefixOf (s.drop i)=true):gq p s i a=(s.take i).drop a::gq p s (i+1) (i+p.length):=by
 unfold gq;rw[if_pos ha,drop_cons hi,aR,if_pos (by rw[<-drop_cons hi];exact h),mE,List.append_nil];congr 1;by_cases h1:i+p.length<=i+1
 ·rw[if_pos h1,zO (by omega),zy o7,show p.length-1=0 by omega]
 ·rw[if_neg h1,show i+p.length-(i+1)=p.length-1 by omega]
theorem E2{p s:List UInt8}{i a:Nat}(hi:i<s.length)(h:a<=i->p.isPrefixOf (s.drop i)=false):gq p s i a=gq p s (i+1) a:=by
 unfold gq;by_cases ha:a<=i
 ·rw[if_pos ha,if_pos (by omega),drop_cons hi,qy (by rw[<-drop_cons hi];exact h ha),Pf,Rr ha hi]
 ·rw[if_neg ha,drop_cons hi,show a-i=(a-i-1)+1 by omega,aR]
  by_cases h1:a<=i+1
  ·rw[if_pos h1,zO (by omega),zy o7,show a-i-1=0 by omega]
  ·rw[if_neg h1,show a-(i+1)=a-i-1 by omega]
theorem FT{p s:List UInt8}{i a:Nat}(hi:i<=s.length)(ha:a<=s.length)(h:s.length<i+p.length):gq p s i a=[s.drop a]:=by
 unfold gq;by_cases h1:a<=i
 ·rw[if_pos h1,yN (by rw[List.length_drop];omega),mE,<-List.drop_append_of_le_length (by rw[List.length_take];omega),List.take_append_drop]
 ·rw[if_neg h1,zg (by rw[List.length_drop];omega),List.drop_drop,show i+(a-i)=a by omega,yN (by rw[List.length_drop];omega)]
def wL:List Nat:=[0,1,4,5,6,7]
def CN:Sl:=ak Go.Proofs.Tryz.types Go.Proofs.Tryz.f83 wL []
theorem LU:aI Go.Proofs.Tryz.prog Go.Proofs.Tryz.f83 wL CN 2=true:=by decide +kernel
theorem qd(s:List UInt8)(c:UInt8)(hs:s.length<=1099511627776):aC Go.Proofs.Tryz.prog 83 [.v (.str s),.v (.int .u8 c.toNat)] (dR (aR [c] 0 s)):=by
 refine aT Go.Proofs.Tryz.func83 LU ?_;unfold CN ak wL;simp only[go_sem];refine aG [] (fun(p:Nat×Nat×List (List UInt8))=>[(3,.o (dR p.2.2)),(4,.int .i64 p.2.1),(5,.int .i64 p.1)]) (fun p=>p.1<=s.length/\p.2.1<=p.1/\p.2.2.length<=p.1/\p.2.2++gq [c] s p.1 p.2.1=aR [c] 0 s) (fun p=>s.length-p.1) (0,0,[]) (by simp only[go_sem];rfl) ⟨Nat.zero_le _,Nat.zero_le _,Nat.zero_le _,by show gq _ s 0 0=_;exact El⟩ rfl ?_;rintro⟨i,a,out⟩ ⟨hi,ha,ho,hr⟩;simp only at hi ha ho hr;simp only[go_sem];have hw:IntKind.i64.wrap ((i:Int)+1)=((i+1:Nat):Int):=by rw[wrap_small (by omega) (by omega)];rfl
 refine⟨fun h=>⟨h,fun h1=>⟨by omega,by omega,(i+1,i+1,out++[(s.take i).drop a]),⟨h,Nat.le_refl _,by simp;omega,?_⟩,by show s.length-(i+1)<_;omega,by rw[hw]⟩,fun h1=>⟨(i+1,a,out),⟨h,by show a<=i+1;omega,by show out.length<=i+1;omega,?_⟩,by show s.length-(i+1)<_;omega,by rw[hw]⟩⟩,fun h=>⟨by omega,by omega,?_⟩⟩
 ·rw[<-hr,FA (by simp) h ha (by rw[oY,drop_cons h,List.head?_cons];simp at h1|-;exact UInt8.toNat_inj.1 (by omega)),List.append_assoc];rfl
 ·rw[<-hr,E2 h fun _=>by rw[oY,drop_cons h,List.head?_cons];simp at h1|-;rintro rfl;exact h1 rfl]
 ·rw[<-hr,FT hi (by omega) (by simp;omega),List.take_of_length_le (Nat.le_refl _)]
theorem FY{x c y:UInt8}{l:List UInt8}:[x,c,y].isPrefixOf l=(l.take 3 == [x,c,y]):=by
 match l with
 | []=>rfl
 | [a]=>simp[List.isPrefixOf]
 | [a,b]=>simp[List.isPrefixOf]
 | a::b::d::r =>
  rw[Bool.eq_iff_iff];simp[List.isPrefixOf];exact⟨fun h=>⟨h.1.symm,h.2.1.symm,h.2.2.symm⟩,fun h=>⟨h.1.symm,h.2.1.symm,h.2.2.symm⟩⟩
def wM:List Nat:=[0,2,3,4,5]
def CT:Sl:=ak Go.Proofs.Tryz.types Go.Proofs.Tryz.f108 wM []
theorem LS:aI Go.Proofs.Tryz.prog Go.Proofs.Tryz.f108 wM CT 1=true:=by decide +kernel
theorem K1(s:List UInt8)(hs:s.length<=1099511627776):aC Go.Proofs.Tryz.prog 108 [.v (.str s)] (dR (aR [32,124,32] 0 s)):=by
 refine aT Go.Proofs.Tryz.func108 LS ?_;unfold CT ak wM;simp only[go_sem];refine aG [] (fun(p:Nat×Nat×List (List UInt8))=>[(2,.o (dR p.2.2)),(3,.int .i64 p.2.1),(4,.int .i64 p.1)]) (fun p=>p.1<=s.length/\p.2.1<=p.1+2/\p.2.1<=s.length/\p.2.2.length<=p.1/\p.2.2++gq [32,124,32] s p.1 p.2.1=aR [32,124,32] 0 s) (fun p=>s.length-p.1) (0,0,[]) (by simp only[go_sem];rfl) ⟨Nat.zero_le _,Nat.zero_le _,Nat.zero_le _,Nat.zero_le _,by show gq _ s 0 0=_;exact El⟩ rfl ?_;rintro⟨i,a,out⟩ ⟨hi,ha,ha2,ho,hr⟩;simp only at hi ha ha2 ho hr;simp only[go_sem];have hw:IntKind.i64.wrap ((i:Int)+1)=((i+1:Nat):Int):=by rw[wrap_small (by omega) (by omega)];rfl
 have hw3:IntKind.i64.wrap ((i:Int)+3)=((i+3:Nat):Int):=by rw[wrap_small (by omega) (by omega)];rfl
 rw[hw3];have hsd:(s.take (i+3)).drop i=(s.drop i).take 3:=by rw[List.drop_take];congr 1;omega
 refine⟨fun h=>⟨⟨by omega,h⟩,fun h1=>⟨⟨by simp at h1;omega,hi⟩,by omega,(i+1,i+3,out++[(s.take i).drop a]),⟨by show i+1<=s.length;omega,by show i+3<=i+1+2;omega,by show i+3<=s.length;omega,by simp;omega,?_⟩,by show s.length-(i+1)<_;omega,by rw[hw]⟩,fun h1=>⟨(i+1,a,out),⟨by show i+1<=s.length;omega,by show a<=i+1+2;omega,ha2,by show out.length<=i+1;omega,?_⟩,by show s.length-(i+1)<_;omega,by rw[hw]⟩⟩,fun h=>⟨⟨ha2,Nat.le_refl _⟩,by omega,?_⟩⟩
 ·rw[Int.toNat_natCast,hsd,Bool.and_eq_true,decide_eq_true_eq] at h1
  rw[<-hr,FA (by simp) (by omega) h1.2 (by rw[FY];exact h1.1),List.append_assoc];rfl
 ·rw[Int.toNat_natCast,hsd,Bool.and_eq_false_iff,decide_eq_false_iff_not] at h1
  show out++gq _ s (i+1) a=_;rw[<-hr,E2 (i:=i) (by omega) fun hh=>by rw[FY];exact h1.resolve_right (fun h2=>h2 hh)]
 ·rw[<-hr,FT hi ha2 (by simp;omega),List.take_of_length_le (Nat.le_refl _)]
end Go.D3
