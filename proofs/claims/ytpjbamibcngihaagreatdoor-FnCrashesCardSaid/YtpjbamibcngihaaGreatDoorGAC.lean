/- CONTRACTS: split texts, both sides. -/
import Derived.Test.YtpjbamibcngihaaGreatDoorGAB
import Derived.Lib.SplitLaws
import Derived.Lib.Join
namespace Go.D3
open Go
set_option maxHeartbeats 4000000
set_option maxRecDepth 100000
structure ah where
 kd:Int
 fi:Int
 se:Int
 th:Int
def ah.cells(x:ah):List D:=[.int .i64 x.kd,.int .i64 x.fi,.int .i64 x.se,.int .i64 x.th]
def ah.d(x:ah):D:=.agg x.cells
def ah.zero:ah:=⟨0,0,0,0⟩
def ah.cost(_:ah):Nat:=0
theorem V6:D.slice (.agg [.int .i64 0,.int .i64 0,.int .i64 0,.int .i64 0]) []=ae ah.d ah.zero []:=rfl
theorem TV{n:Nat}:D.slice (.agg [.int .i64 0,.int .i64 0,.int .i64 0,.int .i64 0]) (List.replicate n (.agg [.int .i64 0,.int .i64 0,.int .i64 0,.int .i64 0]))=ae ah.d ah.zero (List.replicate n ah.zero):=by unfold ae;rw[List.map_replicate];rfl
theorem VJ{l:List ah}{i:Nat}{kd:Int}{fi:Int}{se:Int}{th:Int}:ez (.o (ae ah.d ah.zero l)) [(i,0)] 0 [.int .i64 kd,.int .i64 fi,.int .i64 se,.int .i64 th]=.o (ae ah.d ah.zero (l.set i ⟨kd,fi,se,th⟩)):=p5 (n:=4) (fun _=>⟨_,rfl,rfl⟩) rfl
attribute [go_sem] ah.cells.eq_1 ah.d.eq_1 V6 TV
theorem Lr{l:List ah}{kd:Int}{fi:Int}{se:Int}{th:Int}:(ae ah.d ah.zero l).dQ [.agg [.int .i64 kd,.int .i64 fi,.int .i64 se,.int .i64 th]]=ae ah.d ah.zero (l++[⟨kd,fi,se,th⟩]):=mz (f:=ah.d) (x:=⟨kd,fi,se,th⟩)
attribute [go_sem high] VJ Lr
theorem yf(x:ah):x.d.ba=true:=by simp only[ah.d,ah.cells,D.ba,cB,Bool.and_self]
structure U where
 st:Int
 ed:List (Int)
def U.cells(x:U):List D:=[.int .i64 x.st,ints x.ed]
def U.d(x:U):D:=.agg x.cells
def U.zero:U:=⟨0,[]⟩
def U.cost(x:U):Nat:=x.ed.length
theorem V9:D.slice (.agg [.int .i64 0,ints []]) []=ae U.d U.zero []:=rfl
theorem TY{n:Nat}:D.slice (.agg [.int .i64 0,ints []]) (List.replicate n (.agg [.int .i64 0,ints []]))=ae U.d U.zero (List.replicate n U.zero):=by unfold ae;rw[List.map_replicate];rfl
theorem VM{l:List U}{i:Nat}{st:Int}{ed:List (Int)}:ez (.o (ae U.d U.zero l)) [(i,0)] 0 [.int .i64 st,ints ed]=.o (ae U.d U.zero (l.set i ⟨st,ed⟩)):=p5 (n:=2) (fun _=>⟨_,rfl,rfl⟩) rfl
attribute [go_sem] U.cells.eq_1 U.d.eq_1 V9 TY
theorem Lv{l:List U}{st:Int}{ed:List (Int)}:(ae U.d U.zero l).dQ [.agg [.int .i64 st,ints ed]]=ae U.d U.zero (l++[⟨st,ed⟩]):=mz (f:=U.d) (x:=⟨st,ed⟩)
attribute [go_sem high] VM Lv
theorem F9(x:U):x.d.ba=true:=by simp only[U.d,U.cells,D.ba,cB,bZ,Bool.and_self]
structure aa where
 nd:Int
 fr:List (Int)
 to:List (Int)
 lf:List (U)
 rt:List (U)
def aa.cells(x:aa):List D:=[.int .i64 x.nd,ints x.fr,ints x.to,ae U.d U.zero x.lf,ae U.d U.zero x.rt]
def aa.d(x:aa):D:=.agg x.cells
def aa.zero:aa:=⟨0,[],[],[],[]⟩
def aa.cost(x:aa):Nat:=x.fr.length+x.to.length+fM U.cost x.lf+fM U.cost x.rt
theorem Wa:D.slice (.agg [.int .i64 0,ints [],ints [],ae U.d U.zero [],ae U.d U.zero []]) []=ae aa.d aa.zero []:=rfl
theorem TZ{n:Nat}:D.slice (.agg [.int .i64 0,ints [],ints [],ae U.d U.zero [],ae U.d U.zero []]) (List.replicate n (.agg [.int .i64 0,ints [],ints [],ae U.d U.zero [],ae U.d U.zero []]))=ae aa.d aa.zero (List.replicate n aa.zero):=by unfold ae;rw[List.map_replicate];rfl
theorem VN{l:List aa}{i:Nat}{nd:Int}{fr:List (Int)}{to:List (Int)}{lf:List (U)}{rt:List (U)}:ez (.o (ae aa.d aa.zero l)) [(i,0)] 0 [.int .i64 nd,ints fr,ints to,ae U.d U.zero lf,ae U.d U.zero rt]=.o (ae aa.d aa.zero (l.set i ⟨nd,fr,to,lf,rt⟩)):=p5 (n:=5) (fun _=>⟨_,rfl,rfl⟩) rfl
attribute [go_sem] aa.cells.eq_1 aa.d.eq_1 Wa TZ
theorem Lw{l:List aa}{nd:Int}{fr:List (Int)}{to:List (Int)}{lf:List (U)}{rt:List (U)}:(ae aa.d aa.zero l).dQ [.agg [.int .i64 nd,ints fr,ints to,ae U.d U.zero lf,ae U.d U.zero rt]]=ae aa.d aa.zero (l++[⟨nd,fr,to,lf,rt⟩]):=mz (f:=aa.d) (x:=⟨nd,fr,to,lf,rt⟩)
attribute [go_sem high] VN Lw
theorem Qk(x:aa):x.d.ba=true:=by simp only[aa.d,aa.cells,D.ba,cB,bZ,kr F9,Bool.and_self]
structure af where
 sz:List (Int)
 mp:List (List (Int))
def af.cells(x:af):List D:=[ints x.sz,aI x.mp]
def af.d(x:af):D:=.agg x.cells
def af.zero:af:=⟨[],[]⟩
def af.cost(x:af):Nat:=x.sz.length+fM List.length x.mp
theorem V7:D.slice (.agg [ints [],aI []]) []=ae af.d af.zero []:=rfl
theorem TW{n:Nat}:D.slice (.agg [ints [],aI []]) (List.replicate n (.agg [ints [],aI []]))=ae af.d af.zero (List.replicate n af.zero):=by unfold ae;rw[List.map_replicate];rfl
theorem VK{l:List af}{i:Nat}{sz:List (Int)}{mp:List (List (Int))}:ez (.o (ae af.d af.zero l)) [(i,0)] 0 [ints sz,aI mp]=.o (ae af.d af.zero (l.set i ⟨sz,mp⟩)):=p5 (n:=2) (fun _=>⟨_,rfl,rfl⟩) rfl
attribute [go_sem] af.cells.eq_1 af.d.eq_1 V7 TW
theorem Lt{l:List af}{sz:List (Int)}{mp:List (List (Int))}:(ae af.d af.zero l).dQ [.agg [ints sz,aI mp]]=ae af.d af.zero (l++[⟨sz,mp⟩]):=mz (f:=af.d) (x:=⟨sz,mp⟩)
attribute [go_sem high] VK Lt
theorem rk(x:af):x.d.ba=true:=by simp only[af.d,af.cells,D.ba,cB,bZ,ff,Bool.and_self]
structure bX where
 sc:aa
 dt:List (af)
 tx:List (List (ah))
 gd:Int
def bX.cells(x:bX):List D:=[.int .i64 x.sc.nd,ints x.sc.fr,ints x.sc.to,ae U.d U.zero x.sc.lf,ae U.d U.zero x.sc.rt,ae af.d af.zero x.dt,ae (ae ah.d ah.zero) [] x.tx,.int .i64 x.gd]
def bX.d(x:bX):D:=.agg x.cells
def bX.zero:bX:=⟨aa.zero,[],[],0⟩
def bX.cost(x:bX):Nat:=aa.cost x.sc+fM af.cost x.dt+fM (fM ah.cost) x.tx
theorem V8:D.slice (.agg [.int .i64 0,ints [],ints [],ae U.d U.zero [],ae U.d U.zero [],ae af.d af.zero [],ae (ae ah.d ah.zero) [] [],.int .i64 0]) []=ae bX.d bX.zero []:=rfl
theorem TX{n:Nat}:D.slice (.agg [.int .i64 0,ints [],ints [],ae U.d U.zero [],ae U.d U.zero [],ae af.d af.zero [],ae (ae ah.d ah.zero) [] [],.int .i64 0]) (List.replicate n (.agg [.int .i64 0,ints [],ints [],ae U.d U.zero [],ae U.d U.zero [],ae af.d af.zero [],ae (ae ah.d ah.zero) [] [],.int .i64 0]))=ae bX.d bX.zero (List.replicate n bX.zero):=by unfold ae;rw[List.map_replicate];rfl
theorem VL{l:List bX}{i:Nat}{scnd:Int}{scfr:List (Int)}{scto:List (Int)}{sclf:List (U)}{scrt:List (U)}{dt:List (af)}{tx:List (List (ah))}{gd:Int}:ez (.o (ae bX.d bX.zero l)) [(i,0)] 0 [.int .i64 scnd,ints scfr,ints scto,ae U.d U.zero sclf,ae U.d U.zero scrt,ae af.d af.zero dt,ae (ae ah.d ah.zero) [] tx,.int .i64 gd]=.o (ae bX.d bX.zero (l.set i ⟨⟨scnd,scfr,scto,sclf,scrt⟩,dt,tx,gd⟩)):=p5 (n:=8) (fun _=>⟨_,rfl,rfl⟩) rfl
attribute [go_sem] bX.cells.eq_1 bX.d.eq_1 V8 TX
theorem Lu{l:List bX}{scnd:Int}{scfr:List (Int)}{scto:List (Int)}{sclf:List (U)}{scrt:List (U)}{dt:List (af)}{tx:List (List (ah))}{gd:Int}:(ae bX.d bX.zero l).dQ [.agg [.int .i64 scnd,ints scfr,ints scto,ae U.d U.zero sclf,ae U.d U.zero scrt,ae af.d af.zero dt,ae (ae ah.d ah.zero) [] tx,.int .i64 gd]]=ae bX.d bX.zero (l++[⟨⟨scnd,scfr,scto,sclf,scrt⟩,dt,tx,gd⟩]):=mz (f:=bX.d) (x:=⟨⟨scnd,scfr,scto,sclf,scrt⟩,dt,tx,gd⟩)
attribute [go_sem high] VL Lu
def aP(n lo hi:Int):Bool:=decide (lo<=n)&&decide (n<=hi)
def bV(n:Int)(f:List Int):Bool:=f.all fun y=>decide (0<=y)&&decide (y<n)
def Bq:List Nat:=[0,1,2,6]
def Jo:Sl:=ak Go.Proofs.Tryz.types Go.Proofs.Tryz.f31 Bq []
theorem Rw:aF Go.Proofs.Tryz.prog Go.Proofs.Tryz.f31 Bq Jo 3=true:=by decide +kernel
theorem oA(n lo hi:Int):aC Go.Proofs.Tryz.prog 31 [.v (.int .i64 n),.v (.int .i64 lo),.v (.int .i64 hi)] (.bool (aP n lo hi)):=by
 unfold aP;refine aQ Go.Proofs.Tryz.func31 Rw ?_;unfold Jo ak Bq;simp only[go_sem]
def AO:List Nat:=[0,1,2,6]
def IM:Sl:=ak Go.Proofs.Tryz.types Go.Proofs.Tryz.f34 AO []
theorem QT:aF Go.Proofs.Tryz.prog Go.Proofs.Tryz.f34 AO IM 3=true:=by decide +kernel
theorem lD(n lo hi:Int):aC Go.Proofs.Tryz.prog 34 [.v (.int .i64 n),.v (.int .i64 lo),.v (.int .i64 hi)] (.bool (aP n lo hi)):=by
 unfold aP;refine aQ Go.Proofs.Tryz.func34 QT ?_;unfold IM ak AO;simp only[go_sem]
def Bu:List Nat:=[0,1,4,5]
def Js:Sl:=ak Go.Proofs.Tryz.types Go.Proofs.Tryz.f143 Bu []
theorem RA:aF Go.Proofs.Tryz.prog Go.Proofs.Tryz.f143 Bu Js 2=true:=by decide +kernel
theorem rO(n:Int)(f:List Int):aC Go.Proofs.Tryz.prog 143 [.v (.int .i64 n),.v (ints f)] (.bool (bV n f)):=by
 refine ei fun hw=>?_
 simp only[dc,eW] at hw;obtain⟨-,⟨hw,-⟩,-⟩:=hw;refine aQ Go.Proofs.Tryz.func143 RA ?_;unfold Js ak Bu;simp only[go_sem];refine aE [] (fun(i:Nat)=>[(3,.int .i64 i)]) (fun i=>i<=f.length/\bV n (f.take i)=true) (fun i=>f.length-i) 0 rfl ⟨Nat.zero_le _,rfl⟩ rfl ?_;rintro i ⟨hi,ha⟩;simp only[go_sem]
 (repeat'(first | (refine And.intro ?_ ?_) | intro))<;>(try(first | trivial | assumption | omega | (simp_all;done) | (simp_all;omega)))
 ·rename_i h1 h2
  symm;refine CR (d:=0) h1 ?_;simp only[Bool.or_eq_true,decide_eq_true_eq] at h2;simp only[Bool.and_eq_false_iff,decide_eq_false_iff_not];omega
 ·rename_i h1 h2
  simp only[Bool.or_eq_false_iff,decide_eq_false_iff_not] at h2;exact⟨i+1,⟨by omega,CQ (d:=0) h1 ha (by simp only[Bool.and_eq_true,decide_eq_true_eq];omega)⟩,by omega,by rw[aM h1 hw]⟩
 ·rename_i h1
  exact(CN (by omega) ha).symm
def A3:List Nat:=[0,1,4,6,7,8,9]
def I2:Sl:=ak Go.Proofs.Tryz.types Go.Proofs.Tryz.f74 A3 []
theorem Q8:aF Go.Proofs.Tryz.prog Go.Proofs.Tryz.f74 A3 I2 2=true:=by decide +kernel
theorem Nq{y n:Int}(hn : -4611686018427387904<=n)(hn2:n<=9223372036854775807):aP y 0 (IntKind.i64.wrap (n-1))=(decide (0<=y)&&decide (y<n)):=by
 unfold aP;rw[iH ⟨by simp[IntKind.min,IntKind.signed,IntKind.bits];omega,by simp[IntKind.max,IntKind.signed,IntKind.bits];omega⟩];congr 1;exact decide_eq_decide.2 ⟨fun h=>by omega,fun h=>by omega⟩
theorem uZ(n:Int)(f:List Int)(hn : 0<=n):aC Go.Proofs.Tryz.prog 74 [.v (ints f),.v (.int .i64 n)] (.bool (bV n f)):=by
 refine ei fun hw=>?_
 simp only[dc,eW,D.du,IntKind.has,IntKind.max,IntKind.signed,IntKind.bits] at hw;obtain⟨⟨hw,-⟩,⟨-,hn2⟩,-⟩:=hw;have hp:=fun y=>Nq (y:=y) (n:=n) (by omega) (by simpa using hn2)
 refine aQ Go.Proofs.Tryz.func74 Q8 ?_;unfold I2 ak A3;simp only[go_sem];refine aE [3] (fun(i:Nat)=>[(6,.int .i64 i)]) (fun i=>i<=f.length/\bV n (f.take i)=true) (fun i=>f.length-i) 0 rfl ⟨Nat.zero_le _,rfl⟩ rfl ?_;rintro i ⟨hi,ha⟩;simp only[go_sem];refine⟨fun h=>⟨h,av (lD _ _ _) rfl (.inl rfl) ?_⟩,fun h=>(CN (by omega) ha).symm⟩;simp only[go_sem];rw[hp];refine⟨fun h2=>?_,fun h2=>⟨i+1,⟨by omega,CQ (d:=0) h ha (by simpa using h2)⟩,by omega,by rw[aM h hw]⟩⟩;exact(CR (d:=0) h (by rw[Bool.not_eq_true'] at h2;exact h2)).symm
theorem pZ(a:List Int):∀e∈a.map (D.int .i64),e.cP=true:=fun e he=>by
 obtain⟨x,_,rfl⟩:=List.mem_map.1 he;rfl
def AG:List Nat:=[0,2]
def IE:Sl:=ak Go.Proofs.Tryz.types Go.Proofs.Tryz.f91 AG []
theorem QL:aF Go.Proofs.Tryz.prog Go.Proofs.Tryz.f91 AG IE 1=true:=by decide +kernel
theorem HD(a:List Int)(hs:a.length<=1048576):aC Go.Proofs.Tryz.prog 91 [.v (ints a)] (ints a):=by
 refine aQ Go.Proofs.Tryz.func91 QL ?_;unfold IE ak AG;simp only[go_sem];exact⟨pZ a,by rw[List.length_map];omega⟩
def Bw:List Nat:=[0,2]
def Ju:Sl:=ak Go.Proofs.Tryz.types Go.Proofs.Tryz.f96 Bw []
theorem RC:aF Go.Proofs.Tryz.prog Go.Proofs.Tryz.f96 Bw Ju 1=true:=by decide +kernel
theorem iX(a:List Int)(hs:a.length<=1048576):aC Go.Proofs.Tryz.prog 96 [.v (ints a)] (ints a):=by
 refine aQ Go.Proofs.Tryz.func96 RC ?_;unfold Ju ak Bw;simp only[go_sem];exact⟨pZ a,by rw[List.length_map];omega⟩
def AH:List Nat:=[0,2,3,5,9,10,11]
def IF:Sl:=ak Go.Proofs.Tryz.types Go.Proofs.Tryz.f92 AH []
theorem QM:aF Go.Proofs.Tryz.prog Go.Proofs.Tryz.f92 AH IF 1=true:=by decide +kernel
theorem Uo(a:List (List Int))(hs:fM List.length a<=1048576):aC Go.Proofs.Tryz.prog 92 [.v (aI a)] (aI a):=by
 have hl:a.length<=1048576:=by unfold fM at hs;omega
 have hm:a.length<=maxLen:=by simp only[maxLen];omega
 refine aQ Go.Proofs.Tryz.func92 QM ?_;unfold IF ak AH;simp only[go_sem];refine⟨⟨by omega,by omega⟩,?_⟩;refine aE [3] (fun(i:Nat)=>[(6,.int .i64 i),(2,.o (aI (a.take i)))]) (fun i=>i<=a.length) (fun i=>a.length-i) 0 (by simp only[go_sem];rfl) (Nat.zero_le _) rfl ?_;rintro i hi;simp only[go_sem];refine⟨fun h=>⟨h,av (HD (a.getD i []) (Nat.le_trans (DI (cost:=List.length) h _) hs)) rfl (.inl (bZ _)) ?_⟩,fun h=>by rw[List.take_of_length_le (by omega)]⟩;simp only[go_sem];refine⟨by rw[List.length_take];omega,i+1,by omega,by omega,by rw[cH h [],aM h hm]⟩
def Bx:List Nat:=[0,2,3,4]
def Jv:Sl:=ak Go.Proofs.Tryz.types Go.Proofs.Tryz.f97 Bx []
theorem RD:aF Go.Proofs.Tryz.prog Go.Proofs.Tryz.f97 Bx Jv 1=true:=by decide +kernel
theorem HU(a:List (List Int))(hs:fM List.length a<=1048576):aC Go.Proofs.Tryz.prog 97 [.v (aI a)] (aI a):=by
 have hl:a.length<=1048576:=by unfold fM at hs;omega
 have hm:a.length<=maxLen:=by simp only[maxLen];omega
 refine aQ Go.Proofs.Tryz.func97 RD ?_;unfold Jv ak Bx;simp only[go_sem];refine aE [] (fun(i:Nat)=>[(3,.int .i64 i),(2,.o (aI (a.take i)))]) (fun i=>i<=a.length) (fun i=>a.length-i) 0 (by simp only[go_sem];rfl) (Nat.zero_le _) rfl ?_;rintro i hi;simp only[go_sem];refine⟨fun h=>⟨h,av (iX (a.getD i []) (Nat.le_trans (DI (cost:=List.length) h _) hs)) rfl (.inl (bZ _)) ?_⟩,fun h=>by rw[List.take_of_length_le (by omega)]⟩;simp only[go_sem];refine⟨by rw[List.length_take];omega,i+1,by omega,by omega,by rw[cH h [],aM h hm]⟩
def Bp:List Nat:=[0,1,4,5]
def Jn:Sl:=ak Go.Proofs.Tryz.types Go.Proofs.Tryz.f98 Bp []
theorem Rv:aF Go.Proofs.Tryz.prog Go.Proofs.Tryz.f98 Bp Jn 2=true:=by decide +kernel
theorem UT(l:List Int)(x:Int)(hm:l.length<=1048576):aC Go.Proofs.Tryz.prog 98 [.v (ints l),.v (.int .i64 x)] (.bool (l.contains x)):=by
 refine aQ Go.Proofs.Tryz.func98 Rv ?_;unfold Jn ak Bp;simp only[go_sem];refine aE [] (fun(i:Nat)=>[(3,.int .i64 i)]) (fun i=>i<=l.length/\(l.take i).contains x=false) (fun i=>l.length-i) 0 (by simp only[go_sem];rfl) ⟨Nat.zero_le _,rfl⟩ rfl ?_;rintro i ⟨hi,hn⟩;simp only[go_sem];refine⟨fun h=>⟨h,fun h2=>?_,fun h2=>⟨i+1,⟨h,?_⟩,by omega,by rw[aM h (by simp only[maxLen];omega)]⟩⟩,fun h=>by rw[show i=l.length by omega,List.take_length] at hn;exact hn.symm⟩
 ·have h2:l.getD i 0=x:=by simpa using h2
  rw[aS h] at h2;exact(List.contains_iff_mem.2 (h2▸List.getElem_mem _)).symm
 ·have h2:l.getD i 0≠x:=by simpa using h2
  rw[cH h 0,List.contains_append,hn,Bool.false_or];generalize l.getD i 0=v at h2;simp;exact fun e=>h2 e.symm
def AP:List Nat:=[0,1,2,6]
def IN:Sl:=ak Go.Proofs.Tryz.types Go.Proofs.Tryz.f77 AP []
theorem QU:aF Go.Proofs.Tryz.prog Go.Proofs.Tryz.f77 AP IN 3=true:=by decide +kernel
theorem Ut(l:List Int)(m n:Int)(hn : 0<=n):aC Go.Proofs.Tryz.prog 77 [.v (ints l),.v (.int .i64 m),.v (.int .i64 n)] (.bool ((l.length:Int) == m&&bV n l)):=by
 refine aQ Go.Proofs.Tryz.func77 QU ?_;unfold IN ak AP;simp only[go_sem];refine bt (fun _=>uZ n l hn) rfl (fun h=>h) (.inl rfl) ?_;simp only[go_sem]
end Go.D3
namespace Go.D3
open Go
set_option maxRecDepth 100000
theorem VT{L:List D}{i:Nat}{z y:D}(hz:z.isAgg=false):(L.set i .dead).set i (dJ ((L.set i .dead).getD i z) 0 y)=L.set i y:=by
 have:dJ ((L.set i .dead).getD i z) 0 y=y:=by
  rw[List.getD_eq_getElem?_getD];by_cases h:i<L.length
  ·rw[List.getElem?_set_self h];rfl
  ·rw[List.getElem?_eq_none (by simpa using h)]
   simp only[Option.getD_none];cases z<;>first | rfl | cases hz
 rw[this,List.set_set]
end Go.D3
namespace Go.D3
open Go
def lT(b:UInt8):List (List UInt8)->List (List UInt8)
 | x::l=>(b::x)::l
 | []=>[[b]]
def mM(s:List UInt8):List (List UInt8)->List (List UInt8)
 | x::l=>(s++x)::l
 | []=>[s]
def aT(p:List UInt8):Nat->List UInt8->List (List UInt8)
 | _,[]=>[[]]
 | k+1,_::r=>aT p k r
 | 0,b::r=>if p.isPrefixOf (b::r)=true then[]::aT p (p.length-1) r else lT b (aT p 0 r)
theorem oK{p:List UInt8}{k:Nat}:aT p k []=[[]]:=by cases k<;>rfl
theorem p9{p:List UInt8}:∀{k:Nat}{s:List UInt8},aT p k s≠[]
 | k,[]=>by rw[oK];simp
 | k+1,_::r=>by rw[aT];exact p9
 | 0,b::r=>by
  rw[aT];split
  ·simp
  ·cases aT p 0 r<;>simp[lT]
theorem Aa{p:List UInt8}:∀{k:Nat}{s:List UInt8},k<=s.length->aT p k s=aT p 0 (s.drop k)
 | 0,_,_=>rfl
 | k+1,[],h=>by simp at h
 | k+1,_::r,h=>by rw[aT,List.drop_succ_cons];exact Aa (by simpa using h)
theorem yV{p s:List UInt8}(h:p.isPrefixOf s=true):p.length<=s.length:=(List.isPrefixOf_iff_prefix.1 h).length_le
theorem KG{p s:List UInt8}(hp:p≠[])(h:p.isPrefixOf s=true):aT p 0 s=[]::aT p 0 (s.drop p.length):=by
 have hl:=yV h;cases s with
 | nil=>cases p with
  | nil=>exact absurd rfl hp
  | cons c q=>simp at hl
 | cons b r =>
  cases p with
  | nil=>exact absurd rfl hp
  | cons c q =>
   rw[aT,if_pos h,Aa (by simpa using hl)];simp
theorem rZ{p r:List UInt8}{b:UInt8}(h:p.isPrefixOf (b::r)=false):aT p 0 (b::r)=lT b (aT p 0 r):=by
 rw[aT,if_neg (by rw[h];simp)]
theorem yT{l:List (List UInt8)}(h:l≠[]):mM [] l=l:=by cases l<;>simp_all[mM]
theorem Tm{s:List UInt8}{b:UInt8}{l:List (List UInt8)}:mM s (lT b l)=mM (s++[b]) l:=by cases l<;>simp[mM,lT]
theorem z8{p:List UInt8}:∀{s:List UInt8},s.length<p.length->aT p 0 s=[s]
 | [],_=>oK
 | b::r,h=>by
  have:p.isPrefixOf (b::r)=false:=by
   cases hc:p.isPrefixOf (b::r) with
   | false=>rfl
   | true=>have:=yV hc;omega
  rw[rZ this,z8 (by simp only[List.length_cons] at h;omega)];rfl
theorem Ws{p:List UInt8}(hp:p≠[]):∀(n:Nat){s:List UInt8},s.length<=n->Lib.splitK p 0 (Lib.count s p) s=aT p 0 s:=by
 intro n;induction n with
 | zero =>
  intro s h;have:s=[]:=List.length_eq_zero_iff.1 (by omega);subst this
  have hi:Lib.index [] p=-1:=by cases p with
   | nil=>exact absurd rfl hp
   | cons c q=>rfl
  rw[Lib.count_miss hi,oK];rfl
 | succ n ih =>
  intro s h;cases hc:p.isPrefixOf s with
  | true =>
   have hi:Lib.index s p=((0:Nat):Int):=by cases s with
    | nil=>cases p with
     | nil=>rfl
     | cons c q=>simp at hc
    | cons b r=>rw[Lib.index,hc];rfl
   have hl:=yV hc;have hp1 : 1<=p.length:=by cases p<;>simp_all
   rw[Lib.count_hit hp hi,Nat.add_comm,Lib.splitK,if_neg (by rw[hi];decide),KG hp hc,hi];simp only[Int.toNat_natCast,Nat.zero_add,Nat.add_zero,List.take_zero];rw[ih (by rw[List.length_drop];omega)]
  | false =>
   cases s with
   | nil =>
    have hi:Lib.index [] p=-1:=by cases p with
     | nil=>exact absurd rfl hp
     | cons c q=>rfl
    rw[Lib.count_miss hi,oK];rfl
   | cons b r =>
    have hix:Lib.index (b::r) p=if Lib.index r p == -1 then -1 else Lib.index r p+1:=by rw[Lib.index,hc];simp
    rw[rZ hc,<-ih (s:=r) (by simpa using h)];by_cases hm:Lib.index r p=-1
    ·rw[Lib.count_miss hm,Lib.count_miss (by rw[hix,if_pos (beq_iff_eq.2 hm)])];rfl
    ·have hge:=Lib.index_ge r p
     obtain⟨j,hj⟩:∃j:Nat,Lib.index r p=j:=⟨(Lib.index r p).toNat,by omega⟩;have hix':Lib.index (b::r) p=((j+1:Nat):Int):=by rw[hix,if_neg (fun e=>hm (beq_iff_eq.1 e)),hj];rfl
     rw[Lib.count_hit hp hj,Lib.count_hit hp hix',Nat.add_comm 1,Nat.add_comm 1,Lib.splitK,Lib.splitK,if_neg (by rw[hix'];simp;omega),if_neg (by rw[hj];simp),hix',hj];have e1:(b::r).drop (j+1+p.length)=r.drop (j+p.length):=by rw[show j+1+p.length=(j+p.length)+1 by omega,List.drop_succ_cons]
     simp only[Int.toNat_natCast,e1,Nat.add_zero,List.take_succ_cons,lT]
theorem z6{p:List UInt8}(hp:p≠[]){r:List UInt8}:∀{a:List UInt8},(∀i,i<a.length->p.isPrefixOf ((a++p++r).drop i)=false)->aT p 0 (a++p++r)=a::aT p 0 r
 | [],_=>by
  rw[List.nil_append,KG hp (List.isPrefixOf_iff_prefix.2 (List.prefix_append _ _)),List.drop_left]
 | b::a,h=>by
  have h0:=h 0 (by simp);have:=z6 hp (r:=r) (a:=a) fun i hi=>by have:=h (i+1) (by simp;omega);simpa using this
  rw[List.cons_append,List.cons_append,rZ (by simpa using h0),this];rfl
theorem z7{p:List UInt8}:∀{a:List UInt8},(∀i,i<a.length->p.isPrefixOf (a.drop i)=false)->aT p 0 a=[a]
 | [],_=>oK
 | b::a,h=>by
  have h0:=h 0 (by simp);have:=z7 (p:=p) (a:=a) fun i hi=>by have:=h (i+1) (by simp;omega);simpa using this
  rw[rZ (by simpa using h0),this];rfl
theorem pR{c:UInt8}{s:List UInt8}:[c].isPrefixOf s=(s.head? == some c):=by
 cases s<;>simp[List.isPrefixOf,Bool.beq_comm]
theorem oJ{c:UInt8}{a r:List UInt8}(h:c ∉ a):aT [c] 0 (a++[c]++r)=a::aT [c] 0 r:=by
 refine z6 (by simp) fun i hi=>?_
 rw[pR,List.append_assoc,List.drop_append_of_le_length (by omega),List.drop_eq_getElem_cons hi];simp only[List.cons_append,List.head?_cons];rw[Bool.eq_false_iff];intro hh;simp only[beq_iff_eq,Option.some.injEq] at hh;exact h (hh▸List.getElem_mem hi)
theorem rY{c:UInt8}{a:List UInt8}(h:c ∉ a):aT [c] 0 a=[a]:=by
 refine z7 fun i hi=>?_
 rw[pR,List.drop_eq_getElem_cons hi,List.head?_cons,Bool.eq_false_iff];intro hh;simp only[beq_iff_eq,Option.some.injEq] at hh;exact h (hh▸List.getElem_mem hi)
theorem KB{x c y:UInt8}{a r:List UInt8}(hx:x≠c)(h:c ∉ a):aT [x,c,y] 0 (a++[x,c,y]++r)=a::aT [x,c,y] 0 r:=by
 refine z6 (by simp) fun i hi=>?_
 rw[Bool.eq_false_iff];intro hh;obtain⟨t,ht⟩:=List.isPrefixOf_iff_prefix.1 hh;have h1:((a++[x,c,y]++r).drop i)[1]?=some c:=by rw[<-ht];rfl
 rw[List.getElem?_drop,List.append_assoc] at h1;by_cases hl:i+1<a.length
 ·rw[List.getElem?_append_left hl,List.getElem?_eq_getElem hl] at h1
  exact h (by injection h1 with h1;rw[<-h1];exact List.getElem_mem _)
 ·rw[List.getElem?_append_right (by omega),show i+1-a.length=0 by omega] at h1
  exact hx (by simpa using h1)
theorem Wp{x c y:UInt8}{a:List UInt8}(h:c ∉ a):aT [x,c,y] 0 a=[a]:=by
 refine z7 fun i hi=>?_
 rw[Bool.eq_false_iff];intro hh;obtain⟨t,ht⟩:=List.isPrefixOf_iff_prefix.1 hh;have h1:(a.drop i)[1]?=some c:=by rw[<-ht];rfl
 rw[List.getElem?_drop] at h1;exact h (List.mem_of_getElem? h1)
theorem nV{x y sep:List UInt8}{l:List (List UInt8)}:Lib.join (x::y::l) sep=x++sep++Lib.join (y::l) sep:=by
 rw[Lib.join_cons,Lib.join_cons];unfold Lib.joinTail;simp
theorem KI{c:UInt8}:∀{l:List (List UInt8)},l≠[]->(∀x∈l,c ∉ x)->aT [c] 0 (Lib.join l [c])=l
 | [],h,_=>absurd rfl h
 | [x],_,h=>by rw[Lib.join_one];exact rY (h x (by simp))
 | x::y::l,_,h=>by
  rw[nV,oJ (h x (by simp)),KI (by simp) fun z hz=>h z (List.mem_cons_of_mem _ hz)]
theorem mY{p:List UInt8}:∀{k:Nat}{s:List UInt8},(aT p k s).length<=s.length+1
 | k,[]=>by rw[oK];simp
 | k+1,_::r=>by rw[aT];have:=mY (p:=p) (k:=k) (s:=r);simp;omega
 | 0,b::r=>by
  rw[aT];have h1:=mY (p:=p) (k:=p.length-1) (s:=r);have h2:=mY (p:=p) (k:=0) (s:=r);split
  ·simp;omega
  ·cases hh:aT p 0 r with
   | nil=>simp[lT]
   | cons x l=>rw[hh] at h2;simp[lT] at h2|-;omega
theorem ic{p:List UInt8}:∀{k:Nat}{s x:List UInt8},x∈aT p k s->x.length<=s.length
 | k,[],x,h=>by rw[oK] at h;simp at h;subst h;simp
 | k+1,_::r,x,h=>by rw[aT] at h;have:=ic h;simp;omega
 | 0,b::r,x,h=>by
  rw[aT] at h;split at h
  ·rcases List.mem_cons.1 h with rfl | h
   ·simp
   ·have:=ic h;simp;omega
  ·cases hh:aT p 0 r with
   | nil=>exact absurd hh p9
   | cons y l =>
    rw[hh] at h;rcases List.mem_cons.1 h with rfl | h
    ·have:=ic (p:=p) (k:=0) (s:=r) (x:=y) (by rw[hh];simp);simp;omega
    ·have:=ic (p:=p) (k:=0) (s:=r) (x:=x) (by rw[hh];simp[h]);simp;omega
end Go.D3
namespace Go.D3
open Go
set_option maxRecDepth 100000
attribute [go_sem] bytesOf.eq_1 bytesOf.eq_2
theorem DQ(n:Nat)(h:n<18446744073709551616):(Lib.decDigits n).length<=20:=by rw[Lib.decDigits_length];exact Lib.nDigits_le20 n h
theorem s5{n:Nat}(h:¬n<10):Lib.decDigits n=Lib.decDigits (n / 10)++[UInt8.ofNat (48+n % 10)]:=by rw[Lib.decDigits,dif_neg h]
theorem DS{m:Nat}(h:m<10):(IntKind.u8.wrap (IntKind.i64.wrap (48+(m:Int)))).toNat=48+m:=by
 rw[wrap_small (by omega) (by omega),iH ⟨by simp[IntKind.min,IntKind.signed];omega,by simp[IntKind.max,IntKind.signed,IntKind.bits];omega⟩];omega
def Bn:List Nat:=[0,2]
def Jl:Sl:=ak Go.Proofs.Tryz.types Go.Proofs.Tryz.f55 Bn []
theorem Rt:aF Go.Proofs.Tryz.prog Go.Proofs.Tryz.f55 Bn Jl 1=true:=by decide +kernel
theorem US(n:Nat)(hn:n<=4611686018427387900):aC Go.Proofs.Tryz.prog 55 [.v (.int .i64 n)] (.str (Lib.decDigits n)):=by
 induction n using Nat.strongRecOn with
 | _ n ih =>
  refine aQ Go.Proofs.Tryz.func55 Rt ?_;unfold Jl ak Bn;simp only[go_sem];refine⟨fun h=>?_,fun h=>?_⟩
  ·have h:n<10:=by omega
   rw[DS h,Lib.decDigits_one h]
  ·have h:¬n<10:=by omega
   have e1:IntKind.i64.wrap ((n:Int).tdiv 10)=((n / 10:Nat):Int):=by
    rw[Int.tdiv_eq_ediv_of_nonneg (by omega),wrap_small (by omega) (by omega)];rfl
   rw[e1];refine⟨by decide,av (ih (n / 10) (by omega) (by omega)) rfl (.inl rfl) ?_⟩;simp only[go_sem];have e2:((n:Int).tmod 10)=((n % 10:Nat):Int):=by rw[Int.tmod_eq_emod_of_nonneg (by omega)];rfl
   rw[e2,DS (by omega)];have:=DQ (n / 10) (by omega);refine⟨by decide,by simp only[maxLen];omega,?_⟩;rw[s5 h]
end Go.D3
namespace Go.D3
open Go
set_option maxRecDepth 100000
theorem VE{s:List UInt8}{at' i:Nat}(h:at'<=i)(hi:i<s.length):(s.take i).drop at'++[s.getD i 0]=(s.take (i+1)).drop at':=by
 rw[aS hi,List.take_succ_eq_append_getElem hi,List.drop_append_of_le_length (by rw[List.length_take];omega)]
theorem zN{s:List UInt8}{i j:Nat}(h:i<=j):(s.take i).drop j=[]:=List.drop_eq_nil_of_le (by rw[List.length_take];omega)
theorem drop_cons{s:List UInt8}{i:Nat}(hi:i<s.length):s.drop i=s.getD i 0::s.drop (i+1):=by rw[List.drop_eq_getElem_cons hi,aS hi]
def gN(p s:List UInt8)(i a:Nat):List (List UInt8):=if a<=i then mM ((s.take i).drop a) (aT p 0 (s.drop i)) else aT p (a-i) (s.drop i)
theorem KF{p s:List UInt8}{i:Nat}:gN p s i i=aT p 0 (s.drop i):=by unfold gN;rw[if_pos (Nat.le_refl _),zN (Nat.le_refl _),yT p9]
theorem KD{p s:List UInt8}{i a:Nat}(hp : 0<p.length)(hi:i<s.length)(ha:a<=i)(h:p.isPrefixOf (s.drop i)=true):gN p s i a=(s.take i).drop a::gN p s (i+1) (i+p.length):=by
 unfold gN;rw[if_pos ha,drop_cons hi,aT,if_pos (by rw[<-drop_cons hi];exact h),mM,List.append_nil];congr 1;by_cases h1:i+p.length<=i+1
 ·rw[if_pos h1,zN (by omega),yT p9,show p.length-1=0 by omega]
 ·rw[if_neg h1,show i+p.length-(i+1)=p.length-1 by omega]
theorem KE{p s:List UInt8}{i a:Nat}(hi:i<s.length)(h:a<=i->p.isPrefixOf (s.drop i)=false):gN p s i a=gN p s (i+1) a:=by
 unfold gN;by_cases ha:a<=i
 ·rw[if_pos ha,if_pos (by omega),drop_cons hi,rZ (by rw[<-drop_cons hi];exact h ha),Tm,VE ha hi]
 ·rw[if_neg ha,drop_cons hi,show a-i=(a-i-1)+1 by omega,aT]
  by_cases h1:a<=i+1
  ·rw[if_pos h1,zN (by omega),yT p9,show a-i-1=0 by omega]
  ·rw[if_neg h1,show a-(i+1)=a-i-1 by omega]
theorem KC{p s:List UInt8}{i a:Nat}(hi:i<=s.length)(ha:a<=s.length)(h:s.length<i+p.length):gN p s i a=[s.drop a]:=by
 unfold gN;by_cases h1:a<=i
 ·rw[if_pos h1,z8 (by rw[List.length_drop];omega),mM,<-List.drop_append_of_le_length (by rw[List.length_take];omega),List.take_append_drop]
 ·rw[if_neg h1,Aa (by rw[List.length_drop];omega),List.drop_drop,show i+(a-i)=a by omega,z8 (by rw[List.length_drop];omega)]
def BB:List Nat:=[0,1,4,5,6,7]
def Jz:Sl:=ak Go.Proofs.Tryz.types Go.Proofs.Tryz.f83 BB []
theorem RH:aF Go.Proofs.Tryz.prog Go.Proofs.Tryz.f83 BB Jz 2=true:=by decide +kernel
theorem rP(s:List UInt8)(c:UInt8)(hs:s.length<=1099511627776):aC Go.Proofs.Tryz.prog 83 [.v (.str s),.v (.int .u8 c.toNat)] (dY (aT [c] 0 s)):=by
 refine aQ Go.Proofs.Tryz.func83 RH ?_;unfold Jz ak BB;simp only[go_sem];refine aE [] (fun(p:Nat×Nat×List (List UInt8))=>[(3,.o (dY p.2.2)),(4,.int .i64 p.2.1),(5,.int .i64 p.1)]) (fun p=>p.1<=s.length/\p.2.1<=p.1/\p.2.2.length<=p.1/\p.2.2++gN [c] s p.1 p.2.1=aT [c] 0 s) (fun p=>s.length-p.1) (0,0,[]) (by simp only[go_sem];rfl) ⟨Nat.zero_le _,Nat.zero_le _,Nat.zero_le _,by show gN _ s 0 0=_;exact KF⟩ rfl ?_;rintro⟨i,a,out⟩ ⟨hi,ha,ho,hr⟩;simp only at hi ha ho hr;simp only[go_sem];have hw:IntKind.i64.wrap ((i:Int)+1)=((i+1:Nat):Int):=by rw[wrap_small (by omega) (by omega)];rfl
 refine⟨fun h=>⟨h,fun h1=>⟨by omega,by omega,(i+1,i+1,out++[(s.take i).drop a]),⟨h,Nat.le_refl _,by simp;omega,?_⟩,by show s.length-(i+1)<_;omega,by rw[hw]⟩,fun h1=>⟨(i+1,a,out),⟨h,by show a<=i+1;omega,by show out.length<=i+1;omega,?_⟩,by show s.length-(i+1)<_;omega,by rw[hw]⟩⟩,fun h=>⟨by omega,by omega,?_⟩⟩
 ·rw[<-hr,KD (by simp) h ha (by rw[pR,drop_cons h,List.head?_cons];simp at h1|-;exact UInt8.toNat_inj.1 (by omega)),List.append_assoc];rfl
 ·rw[<-hr,KE h fun _=>by rw[pR,drop_cons h,List.head?_cons];simp at h1|-;rintro rfl;exact h1 rfl]
 ·rw[<-hr,KC hi (by omega) (by simp;omega),List.take_of_length_le (Nat.le_refl _)]
theorem GQ{x c y:UInt8}{l:List UInt8}:[x,c,y].isPrefixOf l=(l.take 3 == [x,c,y]):=by
 match l with
 | []=>rfl
 | [a]=>simp[List.isPrefixOf]
 | [a,b]=>simp[List.isPrefixOf]
 | a::b::d::r =>
  rw[Bool.eq_iff_iff];simp[List.isPrefixOf];exact⟨fun h=>⟨h.1.symm,h.2.1.symm,h.2.2.symm⟩,fun h=>⟨h.1.symm,h.2.1.symm,h.2.2.symm⟩⟩
def BK:List Nat:=[0,2,3,4,5]
def JI:Sl:=ak Go.Proofs.Tryz.types Go.Proofs.Tryz.f108 BK []
theorem RU:aF Go.Proofs.Tryz.prog Go.Proofs.Tryz.f108 BK JI 1=true:=by decide +kernel
theorem U2(s:List UInt8)(hs:s.length<=1099511627776):aC Go.Proofs.Tryz.prog 108 [.v (.str s)] (dY (aT [32,124,32] 0 s)):=by
 refine aQ Go.Proofs.Tryz.func108 RU ?_;unfold JI ak BK;simp only[go_sem];refine aE [] (fun(p:Nat×Nat×List (List UInt8))=>[(2,.o (dY p.2.2)),(3,.int .i64 p.2.1),(4,.int .i64 p.1)]) (fun p=>p.1<=s.length/\p.2.1<=p.1+2/\p.2.1<=s.length/\p.2.2.length<=p.1/\p.2.2++gN [32,124,32] s p.1 p.2.1=aT [32,124,32] 0 s) (fun p=>s.length-p.1) (0,0,[]) (by simp only[go_sem];rfl) ⟨Nat.zero_le _,Nat.zero_le _,Nat.zero_le _,Nat.zero_le _,by show gN _ s 0 0=_;exact KF⟩ rfl ?_;rintro⟨i,a,out⟩ ⟨hi,ha,ha2,ho,hr⟩;simp only at hi ha ha2 ho hr;simp only[go_sem];have hw:IntKind.i64.wrap ((i:Int)+1)=((i+1:Nat):Int):=by rw[wrap_small (by omega) (by omega)];rfl
 have hw3:IntKind.i64.wrap ((i:Int)+3)=((i+3:Nat):Int):=by rw[wrap_small (by omega) (by omega)];rfl
 rw[hw3];have hsd:(s.take (i+3)).drop i=(s.drop i).take 3:=by rw[List.drop_take];congr 1;omega
 refine⟨fun h=>⟨⟨by omega,h⟩,fun h1=>⟨⟨by simp at h1;omega,hi⟩,by omega,(i+1,i+3,out++[(s.take i).drop a]),⟨by show i+1<=s.length;omega,by show i+3<=i+1+2;omega,by show i+3<=s.length;omega,by simp;omega,?_⟩,by show s.length-(i+1)<_;omega,by rw[hw]⟩,fun h1=>⟨(i+1,a,out),⟨by show i+1<=s.length;omega,by show a<=i+1+2;omega,ha2,by show out.length<=i+1;omega,?_⟩,by show s.length-(i+1)<_;omega,by rw[hw]⟩⟩,fun h=>⟨⟨ha2,Nat.le_refl _⟩,by omega,?_⟩⟩
 ·rw[Int.toNat_natCast,hsd,Bool.and_eq_true,decide_eq_true_eq] at h1
  rw[<-hr,KD (by simp) (by omega) h1.2 (by rw[GQ];exact h1.1),List.append_assoc];rfl
 ·rw[Int.toNat_natCast,hsd,Bool.and_eq_false_iff,decide_eq_false_iff_not] at h1
  show out++gN _ s (i+1) a=_;rw[<-hr,KE (i:=i) (by omega) fun hh=>by rw[GQ];exact h1.resolve_right (fun h2=>h2 hh)]
 ·rw[<-hr,KC hi ha2 (by simp;omega),List.take_of_length_le (Nat.le_refl _)]
end Go.D3
