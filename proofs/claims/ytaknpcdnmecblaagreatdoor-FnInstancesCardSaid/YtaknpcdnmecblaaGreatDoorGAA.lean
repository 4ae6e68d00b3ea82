/- PLAIN LAWS: how short paths are found, put in order and linked. -/
import Derived.Test.YtaknpcdnmecblaaGreatDoorHG
import Derived.Test.YtaknpcdnmecblaaGreatDoorProg
namespace Go.D3
open Go Proofs
set_option maxHeartbeats 4000000
set_option maxRecDepth 100000
structure bL where
 kd:Int
 fi:Int
 se:Int
 th:Int
def bL.cells(x:bL):List D:=[.int .i64 x.kd,.int .i64 x.fi,.int .i64 x.se,.int .i64 x.th]
def bL.d(x:bL):D:=.agg x.cells
def bL.zero:bL:=⟨0,0,0,0⟩
def bL.cost(_:bL):Nat:=0
theorem Z7:D.slice (.agg [.int .i64 0,.int .i64 0,.int .i64 0,.int .i64 0]) []=ae bL.d bL.zero []:=rfl
theorem XB{n:Nat}:D.slice (.agg [.int .i64 0,.int .i64 0,.int .i64 0,.int .i64 0]) (List.replicate n (.agg [.int .i64 0,.int .i64 0,.int .i64 0,.int .i64 0]))=ae bL.d bL.zero (List.replicate n bL.zero):=by unfold ae;rw[List.map_replicate];rfl
theorem ZH{l:List bL}{i:Nat}{kd:Int}{fi:Int}{se:Int}{th:Int}:df (.o (ae bL.d bL.zero l)) [(i,0)] 0 [.int .i64 kd,.int .i64 fi,.int .i64 se,.int .i64 th]=.o (ae bL.d bL.zero (l.set i ⟨kd,fi,se,th⟩)):=mf (n:=4) (fun _=>⟨_,rfl,rfl⟩) rfl
attribute [go_sem] bL.cells.eq_1 bL.d.eq_1 Z7 XB
theorem N8{l:List bL}{kd:Int}{fi:Int}{se:Int}{th:Int}:(ae bL.d bL.zero l).dh [.agg [.int .i64 kd,.int .i64 fi,.int .i64 se,.int .i64 th]]=ae bL.d bL.zero (l++[⟨kd,fi,se,th⟩]):=kO (f:=bL.d) (x:=⟨kd,fi,se,th⟩)
attribute [go_sem high] ZH N8
structure U where
 st:Int
 ed:List (Int)
def U.cells(x:U):List D:=[.int .i64 x.st,ints x.ed]
def U.d(x:U):D:=.agg x.cells
def U.zero:U:=⟨0,[]⟩
def U.cost(x:U):Nat:=x.ed.length
theorem aac:D.slice (.agg [.int .i64 0,ints []]) []=ae U.d U.zero []:=rfl
theorem XG{n:Nat}:D.slice (.agg [.int .i64 0,ints []]) (List.replicate n (.agg [.int .i64 0,ints []]))=ae U.d U.zero (List.replicate n U.zero):=by unfold ae;rw[List.map_replicate];rfl
theorem ZM{l:List U}{i:Nat}{st:Int}{ed:List (Int)}:df (.o (ae U.d U.zero l)) [(i,0)] 0 [.int .i64 st,ints ed]=.o (ae U.d U.zero (l.set i ⟨st,ed⟩)):=mf (n:=2) (fun _=>⟨_,rfl,rfl⟩) rfl
attribute [go_sem] U.cells.eq_1 U.d.eq_1 aac XG
theorem Od{l:List U}{st:Int}{ed:List (Int)}:(ae U.d U.zero l).dh [.agg [.int .i64 st,ints ed]]=ae U.d U.zero (l++[⟨st,ed⟩]):=kO (f:=U.d) (x:=⟨st,ed⟩)
attribute [go_sem high] ZM Od
theorem zY(x:U):x.d.bA=true:=by simp only[U.d,U.cells,D.bA,eR,bJ,Bool.and_self]
structure aa where
 nd:Int
 fr:List (Int)
 to:List (Int)
 lf:List (U)
 rt:List (U)
def aa.cells(x:aa):List D:=[.int .i64 x.nd,ints x.fr,ints x.to,ae U.d U.zero x.lf,ae U.d U.zero x.rt]
def aa.d(x:aa):D:=.agg x.cells
def aa.zero:aa:=⟨0,[],[],[],[]⟩
def aa.cost(x:aa):Nat:=x.fr.length+x.to.length+da U.cost x.lf+da U.cost x.rt
theorem aad:D.slice (.agg [.int .i64 0,ints [],ints [],ae U.d U.zero [],ae U.d U.zero []]) []=ae aa.d aa.zero []:=rfl
theorem XH{n:Nat}:D.slice (.agg [.int .i64 0,ints [],ints [],ae U.d U.zero [],ae U.d U.zero []]) (List.replicate n (.agg [.int .i64 0,ints [],ints [],ae U.d U.zero [],ae U.d U.zero []]))=ae aa.d aa.zero (List.replicate n aa.zero):=by unfold ae;rw[List.map_replicate];rfl
theorem ZN{l:List aa}{i:Nat}{nd:Int}{fr:List (Int)}{to:List (Int)}{lf:List (U)}{rt:List (U)}:df (.o (ae aa.d aa.zero l)) [(i,0)] 0 [.int .i64 nd,ints fr,ints to,ae U.d U.zero lf,ae U.d U.zero rt]=.o (ae aa.d aa.zero (l.set i ⟨nd,fr,to,lf,rt⟩)):=mf (n:=5) (fun _=>⟨_,rfl,rfl⟩) rfl
attribute [go_sem] aa.cells.eq_1 aa.d.eq_1 aad XH
theorem Oe{l:List aa}{nd:Int}{fr:List (Int)}{to:List (Int)}{lf:List (U)}{rt:List (U)}:(ae aa.d aa.zero l).dh [.agg [.int .i64 nd,ints fr,ints to,ae U.d U.zero lf,ae U.d U.zero rt]]=ae aa.d aa.zero (l++[⟨nd,fr,to,lf,rt⟩]):=kO (f:=aa.d) (x:=⟨nd,fr,to,lf,rt⟩)
attribute [go_sem high] ZN Oe
theorem H4(x:aa):x.d.bA=true:=by simp only[aa.d,aa.cells,D.bA,eR,bJ,p9 zY,Bool.and_self]
structure bC where
 sz:List (Int)
 mp:List (List (Int))
def bC.cells(x:bC):List D:=[ints x.sz,aC x.mp]
def bC.d(x:bC):D:=.agg x.cells
def bC.zero:bC:=⟨[],[]⟩
def bC.cost(x:bC):Nat:=x.sz.length+da List.length x.mp
theorem Z8:D.slice (.agg [ints [],aC []]) []=ae bC.d bC.zero []:=rfl
theorem XC{n:Nat}:D.slice (.agg [ints [],aC []]) (List.replicate n (.agg [ints [],aC []]))=ae bC.d bC.zero (List.replicate n bC.zero):=by unfold ae;rw[List.map_replicate];rfl
theorem ZI{l:List bC}{i:Nat}{sz:List (Int)}{mp:List (List (Int))}:df (.o (ae bC.d bC.zero l)) [(i,0)] 0 [ints sz,aC mp]=.o (ae bC.d bC.zero (l.set i ⟨sz,mp⟩)):=mf (n:=2) (fun _=>⟨_,rfl,rfl⟩) rfl
attribute [go_sem] bC.cells.eq_1 bC.d.eq_1 Z8 XC
theorem N9{l:List bC}{sz:List (Int)}{mp:List (List (Int))}:(ae bC.d bC.zero l).dh [.agg [ints sz,aC mp]]=ae bC.d bC.zero (l++[⟨sz,mp⟩]):=kO (f:=bC.d) (x:=⟨sz,mp⟩)
attribute [go_sem high] ZI N9
structure dF where
 sc:aa
 dt:List (bC)
 tx:List (List (bL))
 gd:Int
def dF.cells(x:dF):List D:=[.int .i64 x.sc.nd,ints x.sc.fr,ints x.sc.to,ae U.d U.zero x.sc.lf,ae U.d U.zero x.sc.rt,ae bC.d bC.zero x.dt,ae (ae bL.d bL.zero) [] x.tx,.int .i64 x.gd]
def dF.d(x:dF):D:=.agg x.cells
def dF.zero:dF:=⟨aa.zero,[],[],0⟩
def dF.cost(x:dF):Nat:=aa.cost x.sc+da bC.cost x.dt+da (da bL.cost) x.tx
theorem aaa:D.slice (.agg [.int .i64 0,ints [],ints [],ae U.d U.zero [],ae U.d U.zero [],ae bC.d bC.zero [],ae (ae bL.d bL.zero) [] [],.int .i64 0]) []=ae dF.d dF.zero []:=rfl
theorem XE{n:Nat}:D.slice (.agg [.int .i64 0,ints [],ints [],ae U.d U.zero [],ae U.d U.zero [],ae bC.d bC.zero [],ae (ae bL.d bL.zero) [] [],.int .i64 0]) (List.replicate n (.agg [.int .i64 0,ints [],ints [],ae U.d U.zero [],ae U.d U.zero [],ae bC.d bC.zero [],ae (ae bL.d bL.zero) [] [],.int .i64 0]))=ae dF.d dF.zero (List.replicate n dF.zero):=by unfold ae;rw[List.map_replicate];rfl
theorem ZK{l:List dF}{i:Nat}{V:Int}{I:List (Int)}{Y:List (Int)}{S:List (U)}{W:List (U)}{dt:List (bC)}{tx:List (List (bL))}{gd:Int}:df (.o (ae dF.d dF.zero l)) [(i,0)] 0 [.int .i64 V,ints I,ints Y,ae U.d U.zero S,ae U.d U.zero W,ae bC.d bC.zero dt,ae (ae bL.d bL.zero) [] tx,.int .i64 gd]=.o (ae dF.d dF.zero (l.set i ⟨⟨V,I,Y,S,W⟩,dt,tx,gd⟩)):=mf (n:=8) (fun _=>⟨_,rfl,rfl⟩) rfl
attribute [go_sem] dF.cells.eq_1 dF.d.eq_1 aaa XE
theorem Ob{l:List dF}{V:Int}{I:List (Int)}{Y:List (Int)}{S:List (U)}{W:List (U)}{dt:List (bC)}{tx:List (List (bL))}{gd:Int}:(ae dF.d dF.zero l).dh [.agg [.int .i64 V,ints I,ints Y,ae U.d U.zero S,ae U.d U.zero W,ae bC.d bC.zero dt,ae (ae bL.d bL.zero) [] tx,.int .i64 gd]]=ae dF.d dF.zero (l++[⟨⟨V,I,Y,S,W⟩,dt,tx,gd⟩]):=kO (f:=dF.d) (x:=⟨⟨V,I,Y,S,W⟩,dt,tx,gd⟩)
attribute [go_sem high] ZK Ob
def bq(n lo hi:Int):Bool:=decide (lo<=n)&&decide (n<=hi)
def bI(n:Int)(f:List Int):Bool:=f.all fun y=>decide (0<=y)&&decide (y<n)
def Db:List Nat:=[0,1,2,6]
def Ld:Sl:=ah Tryz.types Tryz.f100 Db []
theorem UR:aE Tryz.prog Tryz.f100 Db Ld 3=true:=by decide +kernel
theorem A8(n lo hi:Int):aA Tryz.prog 100 [.v (.int .i64 n),.v (.int .i64 lo),.v (.int .i64 hi)] (.bool (bq n lo hi)):=by
 unfold bq;refine aQ Tryz.func100 UR ?_;unfold Ld ah Db;simp only[go_sem]
def Cz:List Nat:=[0,1,2,6]
def KB:Sl:=ah Tryz.types Tryz.f90 Cz []
theorem Uf:aE Tryz.prog Tryz.f90 Cz KB 3=true:=by decide +kernel
theorem sr[Mode](n lo hi:Int):aA Tryz.prog 90 [.v (.int .i64 n),.v (.int .i64 lo),.v (.int .i64 hi)] (.bool (bq n lo hi)):=by
 unfold bq;refine aQ Tryz.func90 Uf ?_;unfold KB ah Cz;simp only[go_sem]
def Df:List Nat:=[0,1,4,5]
def Lh:Sl:=ah Tryz.types Tryz.f101 Df []
theorem UW:aE Tryz.prog Tryz.f101 Df Lh 2=true:=by decide +kernel
theorem qv(n:Int)(f:List Int):aA Tryz.prog 101 [.v (.int .i64 n),.v (ints f)] (.bool (bI n f)):=by
 refine iA fun hw=>?_
 simp only[eL,iJ] at hw;obtain⟨-,⟨hw,-⟩,-⟩:=hw;refine aQ Tryz.func101 UW ?_;unfold Lh ah Df;simp only[go_sem];refine au [] (fun(i:Nat)=>[(3,.int .i64 i)]) (fun i=>i<=f.length/\bI n (f.take i)=true) (fun i=>f.length-i) 0 rfl ⟨Nat.zero_le _,rfl⟩ rfl ?_;rintro i ⟨hi,S⟩;simp only[go_sem]
 (repeat'(first | (refine And.intro ?_ ?_) | intro))<;>(try(first | trivial | assumption | omega | (simp_all;done) | (simp_all;omega)))
 ·rename_i h1 I
  symm;refine EC (d:=0) h1 ?_;simp only[Bool.or_eq_true,decide_eq_true_eq] at I;simp only[Bool.and_eq_false_iff,decide_eq_false_iff_not];omega
 ·rename_i h1 I
  simp only[Bool.or_eq_false_iff,decide_eq_false_iff_not] at I;exact⟨i+1,⟨by omega,EB (d:=0) h1 S (by simp only[Bool.and_eq_true,decide_eq_true_eq];omega)⟩,by omega,by rw[aw h1 hw]⟩
 ·rename_i h1
  exact(EA (by omega) S).symm
def CT:List Nat:=[0,1,4,6,7,8,9]
def KW:Sl:=ah Tryz.types Tryz.f91 CT []
theorem Uz:aE Tryz.prog Tryz.f91 CT KW 2=true:=by decide +kernel
theorem GJ{y n:Int}(S : -4611686018427387904<=n)(I:n<=9223372036854775807):bq y 0 (IntKind.i64.wrap (n-1))=(decide (0<=y)&&decide (y<n)):=by
 unfold bq;rw[lA ⟨by simp[IntKind.min,IntKind.signed,IntKind.bits];omega,by simp[IntKind.max,IntKind.signed,IntKind.bits];omega⟩];congr 1;exact decide_eq_decide.2 ⟨fun h=>by omega,fun h=>by omega⟩
theorem oN(n:Int)(f:List Int)(W : 0<=n):aA Tryz.prog 91 [.v (ints f),.v (.int .i64 n)] (.bool (bI n f)):=by
 refine iA fun hw=>?_
 simp only[eL,iJ,D.ek,IntKind.has,IntKind.max,IntKind.signed,IntKind.bits] at hw;obtain⟨⟨hw,-⟩,⟨-,S⟩,-⟩:=hw;have hp:=fun y=>GJ (y:=y) (n:=n) (by omega) (by simpa using S)
 refine aQ Tryz.func91 Uz ?_;unfold KW ah CT;simp only[go_sem];refine au [3] (fun(i:Nat)=>[(6,.int .i64 i)]) (fun i=>i<=f.length/\bI n (f.take i)=true) (fun i=>f.length-i) 0 rfl ⟨Nat.zero_le _,rfl⟩ rfl ?_;rintro i ⟨hi,V⟩;simp only[go_sem];refine⟨fun h=>⟨h,aj (sr _ _ _) rfl (.inl rfl) ?_⟩,fun h=>(EA (by omega) V).symm⟩;simp only[go_sem];rw[hp];refine⟨fun I=>?_,fun I=>⟨i+1,⟨by omega,EB (d:=0) h V (by simpa using I)⟩,by omega,by rw[aw h hw]⟩⟩;exact(EC (d:=0) h (by rw[Bool.not_eq_true'] at I;exact I)).symm
theorem oP(a:List Int):∀e∈a.map (D.int .i64),e.dv=true:=fun e he=>by
 obtain⟨x,_,rfl⟩:=List.mem_map.1 he;rfl
def Ct:List Nat:=[0,2]
def Kv:Sl:=ah Tryz.types Tryz.f99 Ct []
theorem T9:aE Tryz.prog Tryz.f99 Ct Kv 1=true:=by decide +kernel
theorem kc(a:List Int)(I:a.length<=1048576):aA Tryz.prog 99 [.v (ints a)] (ints a):=by
 refine aQ Tryz.func99 T9 ?_;unfold Kv ah Ct;simp only[go_sem];exact⟨oP a,by rw[List.length_map];omega⟩
def Dh:List Nat:=[0,2]
def Lj:Sl:=ah Tryz.types Tryz.f88 Dh []
theorem UY:aE Tryz.prog Tryz.f88 Dh Lj 1=true:=by decide +kernel
theorem eE(a:List Int)(I:a.length<=1048576):aA Tryz.prog 88 [.v (ints a)] (ints a):=by
 refine aQ Tryz.func88 UY ?_;unfold Lj ah Dh;simp only[go_sem];exact⟨oP a,by rw[List.length_map];omega⟩
def Cu:List Nat:=[0,2,3,5,9,10,11]
def Kw:Sl:=ah Tryz.types Tryz.f176 Cu []
theorem Ua:aE Tryz.prog Tryz.f176 Cu Kw 1=true:=by decide +kernel
theorem Ym(a:List (List Int))(I:da List.length a<=1048576):aA Tryz.prog 176 [.v (aC a)] (aC a):=by
 have S:a.length<=1048576:=by unfold da at I;omega
 have hm:a.length<=maxLen:=by simp only[maxLen];omega
 refine aQ Tryz.func176 Ua ?_;unfold Kw ah Cu;simp only[go_sem];refine⟨⟨by omega,by omega⟩,?_⟩;refine au [3] (fun(i:Nat)=>[(6,.int .i64 i),(2,.o (aC (a.take i)))]) (fun i=>i<=a.length) (fun i=>a.length-i) 0 (by simp only[go_sem];rfl) (Nat.zero_le _) rfl ?_;rintro i hi;simp only[go_sem];refine⟨fun h=>⟨h,aj (kc (a.getD i []) (Nat.le_trans (tc (cost:=List.length) h _) I)) rfl (.inl (bJ _)) ?_⟩,fun h=>by rw[List.take_of_length_le (by omega)]⟩;simp only[go_sem];refine⟨by rw[List.length_take];omega,i+1,by omega,by omega,by rw[b7 h [],aw h hm]⟩
def Di:List Nat:=[0,2,3,4]
def Lk:Sl:=ah Tryz.types Tryz.f181 Di []
theorem UZ:aE Tryz.prog Tryz.f181 Di Lk 1=true:=by decide +kernel
theorem JC(a:List (List Int))(I:da List.length a<=1048576):aA Tryz.prog 181 [.v (aC a)] (aC a):=by
 have S:a.length<=1048576:=by unfold da at I;omega
 have hm:a.length<=maxLen:=by simp only[maxLen];omega
 refine aQ Tryz.func181 UZ ?_;unfold Lk ah Di;simp only[go_sem];refine au [] (fun(i:Nat)=>[(3,.int .i64 i),(2,.o (aC (a.take i)))]) (fun i=>i<=a.length) (fun i=>a.length-i) 0 (by simp only[go_sem];rfl) (Nat.zero_le _) rfl ?_;rintro i hi;simp only[go_sem];refine⟨fun h=>⟨h,aj (eE (a.getD i []) (Nat.le_trans (tc (cost:=List.length) h _) I)) rfl (.inl (bJ _)) ?_⟩,fun h=>by rw[List.take_of_length_le (by omega)]⟩;simp only[go_sem];refine⟨by rw[List.length_take];omega,i+1,by omega,by omega,by rw[b7 h [],aw h hm]⟩
def CA:List Nat:=[0,1,2,6]
def KC:Sl:=ah Tryz.types Tryz.f94 CA []
theorem Ug:aE Tryz.prog Tryz.f94 CA KC 3=true:=by decide +kernel
theorem Jw(l:List Int)(m n:Int)(I : 0<=n):aA Tryz.prog 94 [.v (ints l),.v (.int .i64 m),.v (.int .i64 n)] (.bool ((l.length:Int) == m&&bI n l)):=by
 refine aQ Tryz.func94 Ug ?_;unfold KC ah CA;simp only[go_sem];refine bf (fun _=>oN n l I) rfl (fun h=>h) (.inl rfl) ?_;simp only[go_sem]
end Go.D3
namespace Go.D3
open Go
set_option maxHeartbeats 4000000
set_option maxRecDepth 100000
theorem ZU{L:List D}{i:Nat}{z y:D}(I:z.isAgg=false):(L.set i .dead).set i (dM ((L.set i .dead).getD i z) 0 y)=L.set i y:=by
 have:dM ((L.set i .dead).getD i z) 0 y=y:=by
  rw[List.getD_eq_getElem?_getD];by_cases h:i<L.length
  ·rw[List.getElem?_set_self h];rfl
  ·rw[List.getElem?_eq_none (by simpa using h)]
   simp only[Option.getD_none];cases z<;>first | rfl | cases I
 rw[this,List.set_set]
end Go.D3
namespace Go.D3
open Go Proofs
set_option maxHeartbeats 4000000
set_option maxRecDepth 100000
theorem Ry{α:Type}{f:α->D}{d:α}{l:List α}{k:Nat}{p:Path}:pt k p (ae f d l)=ae f d l:=rfl
attribute [go_sem] Ry
def bp(fr to:List Int):Int->List Int->Option Int
 | x,[]=>some x
 | x,e::r=>if(bq e 0 ((fr.length:Int)-1)&&fr.getD e.toNat 0 == x)=true then bp fr to (to.getD e.toNat 0) r else none
def kD:Option Int->D
 | some x=>.av [.int .i64 x,.bool true]
 | none=>.av [.int .i64 0,.bool false]
theorem vI{fr to l:List Int}{x:Int}{i:Nat}(h:i<l.length):bp fr to x (l.drop i)=if(bq (l.getD i 0) 0 ((fr.length:Int)-1)&&fr.getD (l.getD i 0).toNat 0 == x)=true then bp fr to (to.getD (l.getD i 0).toNat 0) (l.drop (i+1)) else none:=by
 rw[List.drop_eq_getElem_cons h,bp,aM h]
theorem No{n:Nat}(h:n<=maxLen):IntKind.i64.wrap ((n:Int)-1)=(n:Int)-1:=by
 simp only[maxLen] at h;exact lA ⟨by simp[IntKind.min,IntKind.signed,IntKind.bits];omega,by simp[IntKind.max,IntKind.signed,IntKind.bits];omega⟩
def Cd:List Nat:=[0,1,2,6,7,9,10,11,12]
def Ke:Sl:=ah Tryz.types Tryz.f164 Cd []
theorem TT:aE Tryz.prog Tryz.f164 Cd Ke 3=true:=by decide +kernel
theorem Yb[Mode](s:aa)(x:Int)(l:List Int)(ab:s.to.length=s.fr.length):aA Tryz.prog 164 [.v (.ptr s.cells),.v (.int .i64 x),.v (ints l)] (kD (bp s.fr s.to x l)):=by
 refine iA fun hw=>?_
 simp only[eL,iJ,aa.cells,D.ek,iH] at hw;obtain⟨⟨-,⟨Y,-⟩,-⟩,-,⟨Z,-⟩,-⟩:=hw;refine aQ Tryz.func164 TT ?_;unfold Ke ah Cd;simp only[go_sem];refine au [5] (fun(p:Nat×Int)=>[(1,.int .i64 p.2),(8,.int .i64 p.1)]) (fun p=>p.1<=l.length/\bp s.fr s.to p.2 (l.drop p.1)=bp s.fr s.to x l) (fun p=>l.length-p.1) (0,x) (by simp only[go_sem];rfl) ⟨Nat.zero_le _,rfl⟩ rfl ?_;rintro⟨i,y⟩ ⟨hi,I⟩;simp only[go_sem];rw[No Y];refine⟨fun h=>⟨h,aj (sr _ _ _) rfl (.inl rfl) ?_⟩,fun h=>?_⟩
 ·simp only[go_sem]
  have V:=vI (fr:=s.fr) (to:=s.to) (x:=y) h;simp only at I hi;rw[V] at I;have W:bq (l.getD i 0) 0 ((s.fr.length:Int)-1)=true->0<=l.getD i 0/\l.getD i 0<s.fr.length:=by unfold bq;simp;omega
  refine⟨fun h1=>⟨h1,W h1⟩,fun h1=>by simpa using h1,fun h1=>?_,fun h1=>?_⟩
  ·rw[<-I,if_neg];rfl
   intro S;simp only[Bool.and_eq_true,beq_iff_eq] at S;rw[S.1,S.2] at h1;simp at h1
  ·have S:(bq (l.getD i 0) 0 ((s.fr.length:Int)-1)&&s.fr.getD (l.getD i 0).toNat 0 == y)=true:=by
    simp only[Bool.or_eq_false_iff,Bool.not_eq_false',bne_eq_false_iff_eq] at h1;rw[h1.1,h1.2];simp
   rw[if_pos S] at I;simp only[Bool.and_eq_true] at S;exact⟨by have:=W S.1;omega,(i+1,s.to.getD (l.getD i 0).toNat 0),⟨h,I⟩,by show l.length-(i+1)<l.length-i;omega,by rw[aw h Z]⟩
 ·simp only at I hi
  rw[show i=l.length by omega,List.drop_length] at I;rw[<-I];rfl
def aa.aO(s:aa)(p:U):Option Int:=if(bq p.st 0 (s.nd-1)&&decide (p.ed.length<=6))=true then bp s.fr s.to p.st p.ed else none
def Cc:List Nat:=[0,1,4,5,3]
def Kd:Sl:=ah Tryz.types Tryz.f92 Cc []
theorem TS:aE Tryz.prog Tryz.f92 Cc Kd 2=true:=by decide +kernel
theorem oM[Mode](s:aa)(p:U)(S:s.to.length=s.fr.length)(W : 0<=s.nd):aA Tryz.prog 92 [.v (.ptr s.cells),.v (U.d p)] (kD (s.aO p)):=by
 refine iA fun hw=>?_
 simp only[eL,iJ,aa.cells,D.ek,iH,IntKind.has,IntKind.max,IntKind.signed,IntKind.bits] at hw;have V:s.nd<=9223372036854775807:=by simpa using hw.1.1.2
 have I:IntKind.i64.wrap (s.nd-1)=s.nd-1:=lA ⟨by simp[IntKind.min,IntKind.signed,IntKind.bits];omega,by simp[IntKind.max,IntKind.signed,IntKind.bits];omega⟩;refine aQ Tryz.func92 TS ?_;unfold Kd ah Cc;simp only[go_sem];rw[I];refine aj (sr _ _ _) rfl (.inl rfl) ?_;simp only[go_sem]
 have he:(bq p.st 0 (s.nd-1)&&decide (p.ed.length<=6))=!(!bq p.st 0 (s.nd-1) || decide ((6:Int)<(p.ed.length:Int))):=by
  rw[Bool.not_or,Bool.not_not,<-decide_not];congr 1;exact decide_eq_decide.2 (by omega)
 refine⟨fun h=>by simpa using h,fun h=>?_,fun h=>?_⟩
 ·unfold aa.aO;rw[he,h];rfl
 ·refine aj (Yb s p.st p.ed S) rfl (.inl (by cases bp s.fr s.to p.st p.ed<;>rfl)) ?_
  have:s.aO p=bp s.fr s.to p.st p.ed:=by unfold aa.aO;rw[he,h];rfl
  rw[this];cases bp s.fr s.to p.st p.ed<;>simp only[kD]<;>simp only[go_sem]
def aa.te(s:aa)(p q:U):Bool :=
 match s.aO p,s.aO q with
 | some a,some b=>p.st == q.st&&a == b
 | _,_=>false
def aa.fI(s:aa):Bool:=bq s.nd 0 8&&(decide (s.fr.length<=8)&&(decide (s.to.length=s.fr.length)&&(bI s.nd s.fr&&bI s.nd s.to)))
def aa.jn(s:aa):Bool:=decide (s.lf.length<=8)&&decide (s.rt.length=s.lf.length)
def aa.eqs(s:aa)(n:Nat):Bool:=(List.range n).all fun i=>s.te (s.lf.getD i U.zero) (s.rt.getD i U.zero)
def aa.ok(s:aa):Bool:=s.fI&&s.jn&&s.eqs s.lf.length
theorem F3{s:aa}{n:Nat}:s.eqs (n+1)=(s.eqs n&&s.te (s.lf.getD n U.zero) (s.rt.getD n U.zero)):=by
 unfold aa.eqs;rw[List.range_succ,List.all_append];simp
def Cg:List Nat:=[0,2,3,4,5,6,7,8,9,83,84,85]
def Kh:Sl:=ah Tryz.types Tryz.f39 Cg []
theorem TW:aE Tryz.prog Tryz.f39 Cg Kh 1=true:=by decide +kernel
theorem sq(s:aa):aA Tryz.prog 39 [.v (.ptr s.cells)] (.bool s.ok):=by
 refine iA fun hw=>?_
 simp only[eL,iJ,aa.cells,D.ek,iH] at hw;refine aQ Tryz.func39 TW ?_;unfold Kh ah Cg;simp only[go_sem];refine aj (sr _ _ _) rfl (.inl rfl) ?_;simp only[go_sem];refine⟨fun h=>by simpa using h,(fun h=>by simp only[Bool.or_eq_false_iff,Bool.and_eq_true,Bool.not_eq_true',Bool.not_eq_false'] at h|-;exact h),?_⟩;refine bf (fun hg=>oN s.nd s.fr (by simp only[Bool.and_eq_true] at hg;have:=hg.1.1;unfold bq at this;simp at this;omega)) rfl (fun h=>h) (.inl rfl) ?_;simp only[go_sem];refine⟨fun h=>by simpa using h,?_⟩;refine bf (fun hg=>oN s.nd s.to (by simp only[Bool.and_eq_true] at hg;have:=hg.1.1.1;unfold bq at this;simp at this;omega)) rfl (fun h=>h) (.inl rfl) ?_;simp only[go_sem]
 have W:s.fI=!(!bq s.nd 0 8 || decide ((8:Int)<(s.fr.length:Int)) || ((s.to.length:Int) != (s.fr.length:Int)) || !bI s.nd s.fr || !bI s.nd s.to):=by
  unfold aa.fI;have a1:decide (s.fr.length<=8)=!decide ((8:Int)<(s.fr.length:Int)):=by rw[<-decide_not];exact decide_eq_decide.2 (by omega)
  have a2:decide (s.to.length=s.fr.length)=!((s.to.length:Int) != (s.fr.length:Int)):=by
   by_cases h:s.to.length=s.fr.length<;>simp[h]<;>omega
  rw[a1,a2];cases bq s.nd 0 8<;>cases decide ((8:Int)<(s.fr.length:Int))<;>cases((s.to.length:Int) != (s.fr.length:Int))<;>cases bI s.nd s.fr<;>cases bI s.nd s.to<;>rfl
 have Y:s.jn=!(decide ((8:Int)<(s.lf.length:Int)) || ((s.rt.length:Int) != (s.lf.length:Int))):=by
  unfold aa.jn;have a1:decide (s.lf.length<=8)=!decide ((8:Int)<(s.lf.length:Int)):=by rw[<-decide_not];exact decide_eq_decide.2 (by omega)
  have a2:decide (s.rt.length=s.lf.length)=!((s.rt.length:Int) != (s.lf.length:Int)):=by
   by_cases h:s.rt.length=s.lf.length<;>simp[h]<;>omega
  rw[a1,a2,Bool.not_or]
 refine⟨fun h=>by simpa using h,fun h=>?_,fun h=>⟨fun S=>by simpa using S,fun S=>?_,fun S=>?_⟩⟩
 ·unfold aa.ok;rw[W,h];rfl
 ·unfold aa.ok;rw[Y,S];simp
 rw[h] at W;rw[S] at Y;have V:s.to.length=s.fr.length:=by have:=W;simp[aa.fI] at this;exact this.2.2.1
 have hn : 0<=s.nd:=by have:=W;simp[aa.fI,bq] at this;omega
 have ad:s.rt.length=s.lf.length:=by have:=Y;simp[aa.jn] at this;exact this.2
 have hl:s.lf.length<=maxLen:=hw.1.2.2.2.1.1;clear h S;refine au [2,3,4,5,6,7,8] (fun(i:Nat)=>[(11,.int .i64 i)]) (fun i=>i<=s.lf.length/\s.eqs i=true) (fun i=>s.lf.length-i) 0 (by simp only[go_sem];rfl) ⟨Nat.zero_le _,rfl⟩ rfl ?_;rintro i ⟨hi,Z⟩;simp only[go_sem];refine⟨fun h=>⟨h,by omega,aj (oM s (s.lf.getD i U.zero) V hn) rfl (.inl (by cases s.aO (s.lf.getD i U.zero)<;>rfl)) ?_⟩,fun h=>?_⟩
 ·have I:=F3 (s:=s) (n:=i)
  unfold aa.te at I
  have neg:s.eqs (i+1)=false->false=s.ok:=fun hf=>by
   unfold aa.ok;rw[W,Y];symm;simp only[Bool.not_false,Bool.true_and];unfold aa.eqs at hf|-
   rw[List.all_eq_false] at hf|-
   obtain⟨x,h1,S⟩:=hf;exact⟨x,by rw[List.mem_range] at h1|-;omega,S⟩
  have pos:s.eqs (i+1)=true->i+1<=s.lf.length/\s.eqs (i+1)=true:=fun hp=>⟨h,hp⟩
  cases hp:s.aO (s.lf.getD i U.zero) with
  | none =>
   rw[hp,Z] at I;have ab:=neg (by rw[I];cases s.aO (s.rt.getD i U.zero)<;>rfl);simp only[kD];simp only[go_sem];refine aj (oM s (s.rt.getD i U.zero) V hn) rfl (.inl (by cases s.aO (s.rt.getD i U.zero)<;>rfl)) ?_;cases hq:s.aO (s.rt.getD i U.zero)<;>simp only[kD]<;>simp only[go_sem]
   all_goals exact ab
  | some a =>
   rw[hp,Z] at I;simp only[kD];simp only[go_sem];refine aj (oM s (s.rt.getD i U.zero) V hn) rfl (.inl (by cases s.aO (s.rt.getD i U.zero)<;>rfl)) ?_;cases hq:s.aO (s.rt.getD i U.zero)<;>simp only[kD]<;>simp only[go_sem]
   ·rw[hq] at I;exact neg I
   ·rename_i b
    rw[hq] at I;simp only[Bool.true_and] at I;refine⟨fun h=>by simpa using h,fun h=>neg ?_,fun h=>?_⟩
    ·rw[I,Bool.and_eq_false_iff]
     simp only[Bool.or_eq_true,bne_iff_ne] at h;exact h.imp beq_eq_false_iff_ne.2 beq_eq_false_iff_ne.2
    ·simp only[Bool.or_eq_false_iff,bne_eq_false_iff_eq] at h
     exact⟨i+1,pos (by rw[I,Bool.and_eq_true];exact⟨beq_iff_eq.2 h.1,beq_iff_eq.2 h.2⟩),by omega,by rw[aw (by omega) hl]⟩
 ·rw[show i=s.lf.length by omega] at Z
  unfold aa.ok;rw[W,Y,Z];rfl
end Go.D3
namespace Go.D3
open Go Proofs
set_option maxHeartbeats 4000000
set_option maxRecDepth 100000
def rX(fr:List Int)(x:Int)(i:Nat):List Int:=((List.range i).filter fun e=>fr.getD e 0 == x) |>.map fun e:Nat=>(e:Int)
theorem Wl{fr:List Int}{x:Int}{i:Nat}:rX fr x (i+1)=rX fr x i++(if fr.getD i 0=x then[(i:Int)] else[]):=by
 unfold rX;rw[List.range_succ,List.filter_append,List.map_append];congr 1;by_cases h:fr.getD i 0=x
 ·rw[if_pos h,List.filter_cons_of_pos (by simpa using h)];rfl
 ·rw[if_neg h,List.filter_cons_of_neg (by simpa using h)];rfl
def Cy:List Nat:=[0,2]
def KA:Sl:=ah Tryz.types Tryz.f93 Cy []
theorem Ue:aE Tryz.prog Tryz.f93 Cy KA 1=true:=by decide +kernel
theorem Yo(l:List Int):aA Tryz.prog 93 [.v (ints l)] (.bool (bI 17 l)):=by
 refine aQ Tryz.func93 Ue ?_;unfold KA ah Cy;simp only[go_sem];refine aj (oN 17 l (by decide)) rfl (.inl rfl) ?_;simp only[go_sem]
def ck(mp:List (List Int)):Int->List Int->Int
 | r,[]=>r
 | r,e::l=>ck mp ((mp.getD e.toNat []).getD r.toNat 0) l
def kM(mp:List (List Int)):Int->List Int->Prop
 | _,[]=>True
 | r,e::l=>(0<=e/\e<mp.length)/\(0<=r/\r<(mp.getD e.toNat []).length)/\kM mp ((mp.getD e.toNat []).getD r.toNat 0) l
theorem Hf{mp:List (List Int)}{l:List Int}{r:Int}{i:Nat}(h:i<l.length):ck mp r (l.drop i)=ck mp ((mp.getD (l.getD i 0).toNat []).getD r.toNat 0) (l.drop (i+1)) /\
  (kM mp r (l.drop i)->(0<=l.getD i 0/\l.getD i 0<mp.length)/\(0<=r/\r<(mp.getD (l.getD i 0).toNat []).length)/\kM mp ((mp.getD (l.getD i 0).toNat []).getD r.toNat 0) (l.drop (i+1))):=by
 rw[List.drop_eq_getElem_cons h,ck,kM,aM h];exact⟨rfl,id⟩
def CG:List Nat:=[0,1,2,6,8,9,10,11]
def KJ:Sl:=ah Tryz.types Tryz.f97 CG []
theorem Um:aE Tryz.prog Tryz.f97 CG KJ 3=true:=by decide +kernel
theorem A4(mp:List (List Int))(l:List Int)(r:Int)(S:kM mp r l):aA Tryz.prog 97 [.v (aC mp),.v (ints l),.v (.int .i64 r)] (.int .i64 (ck mp r l)):=by
 refine iA fun hw=>?_
 simp only[eL,iJ] at hw;have hl:l.length<=maxLen:=hw.2.1.1;refine aQ Tryz.func97 Um ?_;unfold KJ ah CG;simp only[go_sem];refine au [4] (fun(p:Nat×Int)=>[(2,.int .i64 p.2),(7,.int .i64 p.1)]) (fun p=>p.1<=l.length/\ck mp p.2 (l.drop p.1)=ck mp r l/\kM mp p.2 (l.drop p.1)) (fun p=>l.length-p.1) (0,r) (by simp only[go_sem];rfl) ⟨Nat.zero_le _,rfl,S⟩ rfl ?_;rintro⟨i,y⟩ ⟨hi,I,V⟩;simp only[go_sem];simp only at hi I V;refine⟨fun h=>?_,fun h=>?_⟩
 ·obtain⟨e1,e2⟩:=Hf (mp:=mp) (r:=y) h
  obtain⟨W,Y,Z⟩:=e2 V;exact⟨h,W,Y,(i+1,(mp.getD (l.getD i 0).toNat []).getD y.toNat 0),⟨h,e1▸I,Z⟩,by show l.length-(i+1)<l.length-i;omega,by rw[aw h hl]⟩
 ·rw[show i=l.length by omega,List.drop_length] at I
  rw[<-I];rfl
def aa.iw(s:aa)(sz:List Int)(mp:List (List Int))(e:Nat):Bool:=((mp.getD e []).length:Int) == sz.getD (s.fr.getD e 0).toNat 0&&bI (sz.getD (s.to.getD e 0).toNat 0) (mp.getD e [])
def aa.du(s:aa)(sz:List Int)(mp:List (List Int)):Bool:=((sz.length:Int) == s.nd&&bI 17 sz&&(mp.length == s.fr.length))&&(List.range mp.length).all (s.iw sz mp)
theorem db{n:Int}{l:List Int}{i:Nat}(h:bI n l=true)(hi:i<l.length) : 0<=l.getD i 0/\l.getD i 0<n:=by
 unfold bI at h;have:=List.all_eq_true.1 h _ (List.getElem_mem hi);rw[aM hi];simpa using this
def Ce:List Nat:=[0,1,2,6,7,8,31,32,33]
def Kf:Sl:=ah Tryz.types Tryz.f40 Ce []
theorem TU:aE Tryz.prog Tryz.f40 Ce Kf 3=true:=by decide +kernel
theorem Jt(s:aa)(sz:List Int)(mp:List (List Int))(hs:s.fI=true):aA Tryz.prog 40 [.v (.ptr s.cells),.v (ints sz),.v (aC mp)] (.bool (s.du sz mp)):=by
 have V:=hs;simp only[aa.fI,Bool.and_eq_true,decide_eq_true_eq] at V;obtain⟨h1,S,a1,hf,ht⟩:=V;have hn : 0<=s.nd/\s.nd<=8:=by unfold bq at h1;simpa using h1
 refine aQ Tryz.func40 TU ?_;unfold Kf ah Ce;simp only[go_sem];refine bf (fun _=>Yo sz) rfl (fun h=>h) (.inl rfl) ?_;simp only[go_sem]
 have W:s.du sz mp=(!(((sz.length:Int) != s.nd) || !bI 17 sz || ((mp.length:Int) != (s.fr.length:Int)))&&(List.range mp.length).all (s.iw sz mp)):=by
  unfold aa.du
  have a2:(mp.length == s.fr.length)=!((mp.length:Int) != (s.fr.length:Int)):=by
   rw[Bool.eq_iff_iff];simp only[beq_iff_eq,Bool.not_eq_true',bne_eq_false_iff_eq];omega
  have a3:((sz.length:Int) == s.nd)=!((sz.length:Int) != s.nd):=by unfold bne;rw[Bool.not_not]
  rw[a2,a3,Bool.not_or,Bool.not_or,Bool.not_not]
 refine⟨fun h=>by simpa using h,(fun h=>by simp only[Bool.or_eq_false_iff,Bool.and_eq_true,Bool.not_eq_true',Bool.not_eq_false'] at h|-;exact h),fun h=>by rw[W,h];rfl,fun h=>?_⟩;rw[h] at W;simp only[Bool.or_eq_false_iff,bne_eq_false_iff_eq,Bool.not_eq_false'] at h;obtain⟨⟨ao,Y⟩,ag⟩:=h;refine au [4,5] (fun(i:Nat)=>[(8,.int .i64 i)]) (fun i=>i<=mp.length/\(List.range i).all (s.iw sz mp)=true) (fun i=>mp.length-i) 0 (by simp only[go_sem];rfl) ⟨Nat.zero_le _,rfl⟩ rfl ?_;rintro i ⟨hi,Z⟩;simp only[go_sem];refine⟨fun h=>?_,fun h=>?_⟩
 ·have ad:=db hf (show i<s.fr.length by omega)
  have ax:=db ht (show i<s.to.length by omega);have ab : 0<=sz.getD (s.to.getD i 0).toNat 0:=(db Y (show(s.to.getD i 0).toNat<sz.length by omega)).1;refine⟨h,by omega,by omega,by omega,by omega,aj (Jw _ _ _ ab) rfl (.inl rfl) ?_⟩;simp only[go_sem];have I:(List.range (i+1)).all (s.iw sz mp)=s.iw sz mp i:=by rw[List.range_succ,List.all_append,Z];simp
  have neg:s.iw sz mp i=false->false=s.du sz mp:=fun hf=>by
   rw[W];symm;rw[Bool.not_false,Bool.true_and,List.all_eq_false];exact⟨i,List.mem_range.2 h,by rw[hf];simp⟩
  refine⟨fun S=>neg (by rw[Bool.not_eq_true'] at S;exact S),fun S=>⟨i+1,⟨h,by rw[I];rw[Bool.not_eq_false'] at S;exact S⟩,by omega,by rw[aw h (by simp only[maxLen];omega)]⟩⟩
 ·rw[show i=mp.length by omega] at Z
  rw[W,Z];rfl
section
variable{β:Type}{f:Nat->Option β}{i n:Nat}{b:β}
theorem vF(h:i<n)(hp:(List.range i).findSome? f=none)(hi:f i=some b):(List.range n).findSome? f=some b:=by
 obtain⟨m,rfl⟩:∃m,n=(i+1)+m:=⟨n-(i+1),by omega⟩;rw[List.range_add,List.findSome?_append,List.range_succ,List.findSome?_append,hp];simp[hi]
theorem vG(hp:(List.range i).findSome? f=none)(hi:f i=none):(List.range (i+1)).findSome? f=none:=by
 rw[List.range_succ,List.findSome?_append,hp];simp[hi]
end
def qZ(mp:List (List Int))(p q:List Int)(m:Nat):Option Nat:=(List.range m).findSome? fun r:Nat=>if ck mp r p=ck mp r q then none else some r
def aa.brk(s:aa)(sz:List Int)(mp:List (List Int))(n:Nat):Option (Nat×Nat) :=
 (List.range n).findSome? fun i=>(qZ mp (s.lf.getD i U.zero).ed (s.rt.getD i U.zero).ed (sz.getD (s.lf.getD i U.zero).st.toNat 0).toNat).map fun r=>(i,r)
def nQ:Option (Nat×Nat)->D
 | some (i,r)=>.av [.int .i64 i,.int .i64 r]
 | none=>.av [.int .i64 (-1),.int .i64 0]
def aa.yi(s:aa)(sz:List Int)(mp:List (List Int)):Prop :=
 s.rt.length=s.lf.length/\∀i,i<s.lf.length->(0<=(s.lf.getD i U.zero).st/\(s.lf.getD i U.zero).st<sz.length)/\∀r:Nat,(r:Int)<sz.getD (s.lf.getD i U.zero).st.toNat 0 ->
  kM mp r (s.lf.getD i U.zero).ed/\kM mp r (s.rt.getD i U.zero).ed
def Cb:List Nat:=[0,1,2,6,7,8,9,10,14,15,16,25,26]
def Kc:Sl:=ah Tryz.types Tryz.f42 Cb []
theorem TR:aE Tryz.prog Tryz.f42 Cb Kc 3=true:=by decide +kernel
theorem Js(s:aa)(sz:List Int)(mp:List (List Int))(V:s.yi sz mp)(ag:∀x∈sz,x<=4611686018427387900):aA Tryz.prog 42 [.v (.ptr s.cells),.v (ints sz),.v (aC mp)] (nQ (s.brk sz mp s.lf.length)):=by
 refine iA fun hw=>?_
 simp only[eL,iJ,aa.cells,D.ek,iH] at hw;have hl:s.lf.length<=maxLen:=hw.1.2.2.2.1.1;obtain⟨ao,V⟩:=V;refine aQ Tryz.func42 TR ?_;unfold Kc ah Cb;simp only[go_sem];refine au [5,6,7,11,12] (fun(i:Nat)=>[(10,.int .i64 i)]) (fun i=>i<=s.lf.length/\s.brk sz mp i=none) (fun i=>s.lf.length-i) 0 (by simp only[go_sem];rfl) ⟨Nat.zero_le _,rfl⟩ rfl ?_;rintro i ⟨hi,W⟩;simp only[go_sem];refine⟨fun h=>?_,fun h=>?_⟩
 ·obtain⟨aK,S⟩:=V i h
  refine⟨h,aK,?_⟩
  have ad:sz.getD (s.lf.getD i U.zero).st.toNat 0<=4611686018427387900:=by
   have ab:(s.lf.getD i U.zero).st.toNat<sz.length:=by omega
   rw[aM ab];exact ag _ (List.getElem_mem _)
  have I:∀o,qZ mp (s.lf.getD i U.zero).ed (s.rt.getD i U.zero).ed (sz.getD (s.lf.getD i U.zero).st.toNat 0).toNat=o->(match o with | some r=>s.brk sz mp s.lf.length=some (i,r) | none=>s.brk sz mp (i+1)=none):=by
   intro o ho;cases o with
   | some r=>exact vF h W (by rw[ho];rfl)
   | none=>exact vG W (by rw[ho];rfl)
  generalize hm:sz.getD (s.lf.getD i U.zero).st.toNat 0=m at ad S I;refine au [7] (fun(r:Nat)=>[(12,.int .i64 r)]) (fun r=>r<=m.toNat/\qZ mp (s.lf.getD i U.zero).ed (s.rt.getD i U.zero).ed r=none) (fun r=>m.toNat-r) 0 (by simp only[go_sem];rfl) ⟨Nat.zero_le _,rfl⟩ rfl ?_;rintro r ⟨hr,Z⟩;simp only[go_sem];refine⟨fun h2=>?_,fun h2=>?_⟩
  ·obtain⟨o1,o2⟩:=S r h2
   refine aj (A4 mp _ r o1) rfl (.inl rfl) ?_;simp only[go_sem];refine⟨by omega,aj (A4 mp _ r o2) rfl (.inl rfl) ?_⟩;simp only[go_sem];refine⟨fun Y=>?_,fun Y=>⟨r+1,⟨by omega,vG Z (if_pos (by simpa using Y))⟩,by omega,by rw[wrap_small (by omega) (by omega)];rfl⟩⟩;have:=I _ (vF (show r<m.toNat by omega) Z (if_neg (by simpa using Y)));simp only at this;rw[this];rfl
  ·have:=I none (by rw[show m.toNat=r by omega];exact Z)
   simp only at this;exact⟨i+1,⟨h,this⟩,by omega,by rw[aw h hl]⟩
 ·rw[show i=s.lf.length by omega] at W
  rw[W];rfl
def bL.okB(c:bL):Bool:=if c.kd=1 then c.se == 0&&c.th == 0 else c.kd == 2
end Go.D3
namespace Go.D3
open Go Proofs
set_option maxHeartbeats 4000000
set_option maxRecDepth 100000
structure af where
 ob:Int
 fr:List (Int)
 to:List (Int)
 an:List (Int)
 co:List (List (Int))
def af.cells(x:af):List D:=[.int .i64 x.ob,ints x.fr,ints x.to,ints x.an,aC x.co]
def af.d(x:af):D:=.agg x.cells
def af.zero:af:=⟨0,[],[],[],[]⟩
def af.cost(x:af):Nat:=x.fr.length+x.to.length+x.an.length+da List.length x.co
theorem Z6:D.slice (.agg [.int .i64 0,ints [],ints [],ints [],aC []]) []=ae af.d af.zero []:=rfl
theorem XA{n:Nat}:D.slice (.agg [.int .i64 0,ints [],ints [],ints [],aC []]) (List.replicate n (.agg [.int .i64 0,ints [],ints [],ints [],aC []]))=ae af.d af.zero (List.replicate n af.zero):=by unfold ae;rw[List.map_replicate];rfl
theorem ZG{l:List af}{i:Nat}{ob:Int}{fr:List (Int)}{to:List (Int)}{an:List (Int)}{co:List (List (Int))}:df (.o (ae af.d af.zero l)) [(i,0)] 0 [.int .i64 ob,ints fr,ints to,ints an,aC co]=.o (ae af.d af.zero (l.set i ⟨ob,fr,to,an,co⟩)):=mf (n:=5) (fun _=>⟨_,rfl,rfl⟩) rfl
attribute [go_sem] af.cells.eq_1 af.d.eq_1 Z6 XA
attribute [go_sem high] ZG
theorem dA(x:af):x.d.bA=true:=by simp only[af.d,af.cells,D.bA,eR,bJ,ow,Bool.and_self]
def Dp:List Nat:=[0,1,2,6]
def Lr:Sl:=ah Tryz.types Tryz.f238 Dp []
theorem U5:aE Tryz.prog Tryz.f238 Dp Lr 3=true:=by decide +kernel
theorem JE(l:List Int)(n ob:Int):aA Tryz.prog 238 [.v (ints l),.v (.int .i64 n),.v (.int .i64 ob)] (.bool ((l.length:Int) == n&&bI ob l)):=by
 refine aQ Tryz.func238 U5 ?_;unfold Lr ah Dp;simp only[go_sem];refine bf (fun h=>qv ob l) rfl (fun h=>by simp[h]) (.inl rfl) ?_;simp only[go_sem]
def cS(n:Nat)(p:Nat->Bool):Bool:=(List.range n).all p
theorem jG{n:Nat}{p:Nat->Bool}:cS n p=true↔∀i,i<n->p i=true:=by simp[cS]
theorem pj{n:Nat}{p:Nat->Bool}(h:cS n p=true)(hp:p n=true):cS (n+1) p=true:=by
 rw[jG] at *;intro i hi;by_cases h1:i<n
 ·exact h i h1
 ·rw[show i=n by omega];exact hp
theorem vc{n i:Nat}{p:Nat->Bool}(hi:i<n)(hp:p i=false):cS n p=false:=by
 cases h:cS n p with
 | false=>rfl
 | true=>rw[jG.1 h i hi] at hp;cases hp
theorem HA{n:Int}{l:List Int}:bI n l=true↔∀y∈l,0<=y/\y<n:=by simp[bI]
def af.preB(c:af):Bool:=bq c.ob 0 8&&decide (c.fr.length<=40)&&bI c.ob c.fr&&((c.to.length:Int) == c.fr.length)&&bI c.ob c.to&&((c.co.length:Int) == c.fr.length)&&((c.an.length:Int) == c.ob)&&bI c.fr.length c.an
def af.jS(c:af)(x:Nat):Bool:=c.fr.getD (c.an.getD x 0).toNat 0 == (x:Int)&&c.to.getD (c.an.getD x 0).toNat 0 == (x:Int)
def af.cell(c:af)(f g:Nat):Int:=(c.co.getD f []).getD g 0
def af.gL(c:af)(f g:Nat):Bool :=
 if c.to.getD f 0 != c.fr.getD g 0 then c.cell f g == -1
 else decide (0<=c.cell f g)&&decide (c.cell f g<c.fr.length)&&(c.fr.getD (c.cell f g).toNat 0 == c.fr.getD f 0)&&(c.to.getD (c.cell f g).toNat 0 == c.to.getD g 0)
def af.kZ(c:af)(f:Nat):Bool:=((c.co.getD f []).length:Int) == c.fr.length&&cS c.fr.length (c.gL f)
def af.dN(c:af):Bool:=c.preB&&cS c.an.length c.jS&&cS c.fr.length c.kZ
structure af.Pre(c:af):Prop where
 cZ : 0<=c.ob
 ox:c.ob<=8
 fr:c.fr.length<=40
 rz:bI c.ob c.fr=true
 to:c.to.length=c.fr.length
 xy:bI c.ob c.to=true
 co:c.co.length=c.fr.length
 an:(c.an.length:Int)=c.ob
 zj:bI c.fr.length c.an=true
theorem af.uq{c:af}:c.preB=true↔c.Pre:=by
 simp only[af.preB,bq,Bool.and_eq_true,decide_eq_true_eq,beq_iff_eq];constructor
 ·rintro⟨⟨⟨⟨⟨⟨⟨⟨h1,I⟩,S⟩,V⟩,h5⟩,W⟩,h7⟩,Y⟩,Z⟩
  exact⟨h1,I,S,V,by omega,W,by omega,Y,Z⟩
 ·rintro⟨h1,I,S,V,h5,W,h7,Y,Z⟩
  exact⟨⟨⟨⟨⟨⟨⟨⟨h1,I⟩,S⟩,V⟩,by omega⟩,W⟩,by omega⟩,Y⟩,Z⟩
structure af.Shape(c:af):Prop extends af.Pre c where
 ids:∀x,x<c.an.length->c.jS x=true
 row:∀f,f<c.fr.length->(c.co.getD f []).length=c.fr.length
 cells:∀f g,f<c.fr.length->g<c.fr.length->c.gL f g=true
theorem af.dO{c:af}:c.dN=true↔c.Shape:=by
 simp only[af.dN,af.kZ,Bool.and_eq_true,jG,af.uq,beq_iff_eq];constructor
 ·rintro⟨⟨h1,V⟩,S⟩
  exact⟨h1,V,fun f I=>by have:=(S f I).1;omega,fun f g I hg=>(S f I).2 g hg⟩
 ·rintro⟨h1,V,S,W⟩
  exact⟨⟨h1,V⟩,fun f I=>⟨by have:=S f I;omega,fun g hg=>W f g I hg⟩⟩
theorem af.Pre.cP{c:af}(h:c.Pre):c.an.length<=8:=by have:=h.an;have:=h.ox;omega
theorem af.Pre.idx{c:af}(h:c.Pre){x:Nat}(I:x<c.an.length) : 0<=c.an.getD x 0/\c.an.getD x 0<c.fr.length:=db h.zj I
theorem af.HS{c:af}{x:Nat}(I:x<c.an.length)(h:c.jS x=false):c.dN=false:=by
 unfold af.dN;rw[vc I h];simp
theorem af.zW{c:af}{f:Nat}(I:f<c.fr.length)(h:c.kZ f=false):c.dN=false:=by
 unfold af.dN;rw[vc I h];simp
theorem af.wC{c:af}{f g:Nat}(I:f<c.fr.length)(hg:g<c.fr.length)(h:c.gL f g=false):c.dN=false:=by
 refine af.zW I ?_;unfold af.kZ;rw[vc hg h];simp
theorem af.GS{c:af}(hp:c.Pre)(h1:cS c.an.length c.jS=true)(I:cS c.fr.length c.kZ=true):c.dN=true:=by
 unfold af.dN;rw[h1,I,af.uq.2 hp];rfl
theorem af.wD{c:af}(h:¬c.Pre):c.dN=false:=by
 cases hs:c.dN with
 | false=>rfl
 | true=>exact absurd (af.dO.1 hs).toPre h
theorem l5{P:Nat->Prop}{n:Nat}(h:∀j,j<n->P j)(I:P n):∀j,j<n+1->P j:=fun j S=>by
 by_cases h1:j<n
 ·exact h j h1
 ·rw[show j=n by omega];exact I
theorem gQ{α:Type}{F:Nat->Option α}:∀(n:Nat),(∀j,j<n->F j=none)->(List.range n).findSome? F=none:=by
 intro n h;rw[List.findSome?_eq_none_iff];intro x I;exact h x (by simpa using I)
theorem lR{α:Type}{F:Nat->Option α}{i:Nat}{r:α}:∀(n:Nat),(∀j,j<i->F j=none)->i<n->F i=some r->(List.range n).findSome? F=some r
 | 0,_,h,_=>by omega
 | n+1,I,h1,h2=>by
  rw[List.range_succ,List.findSome?_append];by_cases h:i<n
  ·rw[lR n I h h2];rfl
  ·have:i=n:=by omega
   subst this;rw[gQ i I];simp[h2]
def af.bH(c:af)(f g:Int):Int:=(c.co.getD f.toNat []).getD g.toNat 0
def af.fG(c:af)(x:Int):Int:=c.an.getD x.toNat 0
def af.eO(c:af)(f:Nat):Bool:=c.bH (c.fG (c.fr.getD f 0)) f != f || c.bH f (c.fG (c.to.getD f 0)) != f
def af.eo(c:af)(f g h:Nat):Bool:=c.to.getD f 0 == c.fr.getD g 0&&c.to.getD g 0 == c.fr.getD h 0&&c.bH (c.bH f g) h != c.bH f (c.bH g h)
def af.fE(c:af):Int×Int×Int×Int :=
 match(List.range c.fr.length).findSome? fun f=>if c.eO f then some f else none with
 | some f=>(1,f,0,0)
 | none=>match(List.range c.fr.length).findSome? fun f=>(List.range c.fr.length).findSome? fun g=>(List.range c.fr.length).findSome? fun h=>if c.eo f g h then some (f,g,h) else none with
  | some (f,g,h)=>(2,f,g,h)
  | none=>(0,0,0,0)
section
variable{c:af}
theorem af.EN{f g h:Nat}(I:c.to.getD f 0≠c.fr.getD g 0):c.eo f g h=false:=by unfold af.eo;rw[beq_eq_false_iff_ne.2 I];rfl
theorem af.EO{f g h:Nat}(I:c.to.getD f 0=c.fr.getD g 0):c.eo f g h=(c.to.getD g 0 == c.fr.getD h 0&&c.bH (c.bH f g) h != c.bH f (c.bH g h)):=by unfold af.eo;rw[beq_iff_eq.2 I];rfl
theorem af.vD{f:Nat}(I:∀j,j<f->c.eO j=false)(h1:f<c.fr.length)(S:c.eO f=true):c.fE=(1,(f:Int),0,0):=by
 unfold af.fE;rw[lR (i:=f) (r:=f) _ (fun j V=>by simp[I j V]) h1 (by simp[S])]
theorem af.tl(S:∀j,j<c.fr.length->c.eO j=false)(h:∀f g h,f<c.fr.length->g<c.fr.length->h<c.fr.length->c.eo f g h=false):c.fE=(0,0,0,0):=by
 unfold af.fE;rw[gQ _ (fun j Y=>by simp[S j Y])];simp only;rw[gQ _ fun f V=>gQ _ fun g hg=>gQ _ fun I W=>by simp[h f g I V hg W]]
theorem af.Ge{f g h:Nat}(h0:∀j,j<c.fr.length->c.eO j=false)(hf:f<c.fr.length)(hg:g<c.fr.length)(hh:h<c.fr.length)(h1:c.eo f g h=true)
  (h2:∀I,I<h->c.eo f g I=false) (h3:∀V I,V<g->I<c.fr.length->c.eo f V I=false) (h4:∀Y V I,Y<f->V<c.fr.length->I<c.fr.length->c.eo Y V I=false):c.fE=(2,(f:Int),(g:Int),(h:Int)):=by
 unfold af.fE;rw[gQ _ (fun j hj=>by simp[h0 j hj])];simp only
 rw[lR (i:=f) (r:=(f,g,h)) _ (fun Y Z=>gQ _ fun V W=>gQ _ fun I S=>by simp[h4 Y V I Z W S]) hf
  (lR (i:=g) _ (fun V W=>gQ _ fun I S=>by simp[h3 V I W S]) hg (lR (i:=h) _ (fun I S=>by simp[h2 I S]) hh (by simp[h1])))]
theorem af.Shape.jO(I:c.Shape){f:Nat}(S:f<c.fr.length) : 0<=c.fr.getD f 0/\c.fr.getD f 0<c.an.length:=by
 have:=db I.rz S;have:=I.an;omega
theorem af.Shape.lz(I:c.Shape){f:Nat}(S:f<c.fr.length) : 0<=c.to.getD f 0/\c.to.getD f 0<c.an.length:=by
 have:=db I.xy (i:=f) (by have:=I.to;omega);have:=I.an;omega
theorem af.Shape.tt(I:c.Shape){x:Int}(S : 0<=x)(h1:x<c.an.length) : 0<=c.fG x/\c.fG x<c.fr.length:=I.toPre.idx (x:=x.toNat) (by omega)
theorem af.Shape.Bj(I:c.Shape){f:Int}(S : 0<=f)(h1:f<c.fr.length):(c.co.getD f.toNat []).length=c.fr.length:=I.row f.toNat (by omega)
theorem af.Shape.mC(V:c.Shape){f g:Nat}(S:f<c.fr.length)(hg:g<c.fr.length)(h:c.to.getD f 0=c.fr.getD g 0) : 0<=c.bH f g/\c.bH f g<c.fr.length/\c.fr.getD (c.bH f g).toNat 0=c.fr.getD f 0/\c.to.getD (c.bH f g).toNat 0=c.to.getD g 0:=by
 have I:=V.cells f g S hg;unfold af.gL at I;rw[if_neg (by simp only[h,bne_self_eq_false];decide)] at I;have e:c.cell f g=c.bH f g:=by simp[af.cell,af.bH]
 simp only[e,Bool.and_eq_true,decide_eq_true_eq,beq_iff_eq] at I;exact⟨I.1.1.1,I.1.1.2,I.1.2,I.2⟩
theorem af.Shape.yo(V:c.Shape){f g:Nat}(S:f<c.fr.length)(hg:g<c.fr.length)(h:c.to.getD f 0≠c.fr.getD g 0):c.bH f g=-1:=by
 have I:=V.cells f g S hg;unfold af.gL at I;rw[if_pos (by simpa using h)] at I;have e:c.cell f g=c.bH f g:=by simp[af.cell,af.bH]
 rw[e] at I;simpa using I
end
def fd(r:Int×Int×Int×Int):D:=.av [.int .i64 r.1,.int .i64 r.2.1,.int .i64 r.2.2.1,.int .i64 r.2.2.2]
def af.cU(c:af):Bool:=c.dN&&c.fE.1 == 0
def C5:List Nat:=[0,2,1,3,4,5,6,7]
def K7:Sl:=ah Tryz.types Tryz.f179 C5 []
theorem UL:aE Tryz.prog Tryz.f179 C5 K7 1=true:=by decide +kernel
theorem YL(c:af):aA Tryz.prog 179 [.v c.d] (.bool c.dN):=by
 refine aQ Tryz.func179 UL ?_;unfold K7 ah C5;simp only[go_sem];refine aj (A8 _ _ _) rfl (.inl rfl) ?_;simp only[go_sem];refine⟨fun h=>by simpa using h,?_⟩;refine bf (fun h=>JE c.fr c.fr.length c.ob) rfl (fun h=>by simpa using h) (.inl rfl) ?_;simp only[go_sem];refine⟨fun h=>by simp_all,?_⟩;refine bf (fun h=>JE c.to c.fr.length c.ob) rfl (fun h=>by simpa using h) (.inl rfl) ?_;simp only[go_sem];refine⟨fun h=>by simp_all,fun h=>by simp_all,fun h=>?_,fun h=>?_⟩
 ·symm;refine af.wD fun hp=>?_
  have h1:bq c.ob 0 8=true:=by simp[bq,hp.cZ,hp.ox]
  have V:=hp.fr;simp[h1,hp.rz,hp.to,hp.xy,hp.co] at h;omega
 refine bf (fun h=>qv c.fr.length c.an) rfl (fun h=>by simpa using h) (.inl rfl) ?_;simp only[go_sem];refine⟨fun h=>by simp_all,fun V=>?_,fun V=>?_⟩
 ·symm;refine af.wD fun hp=>?_
  simp[hp.an,hp.zj] at V
 have hp:c.Pre:=by
  simp only[Bool.or_eq_false_iff,Bool.not_eq_false',bne_eq_false_iff_eq,decide_eq_false_iff_not,bq,Bool.and_eq_true,decide_eq_true_eq,beq_iff_eq] at h V;obtain⟨⟨⟨⟨h1,h3⟩,I⟩,h5⟩,h6⟩:=h;exact⟨h1.1,h1.2,by omega,I.2,by omega,h5.2,by omega,V.1,V.2⟩
 clear h V;refine au [] (fun(x:Nat)=>[(4,.int .i64 x)]) (fun x=>x<=c.an.length/\cS x c.jS=true) (fun x=>c.an.length-x) 0 rfl ⟨Nat.zero_le _,rfl⟩ rfl ?_;rintro x ⟨hx,ha⟩;simp only[go_sem];have ao:=hp.an;refine⟨fun h=>?_,fun h=>?_⟩
 ·have S:x<c.an.length:=by omega
  have hid:=hp.idx S;have ad:=hp.to;refine⟨S,hid,fun h=>⟨h,S⟩,fun h=>⟨h,hid.1,by omega⟩,fun h=>by simpa using h,fun h=>?_,fun h=>?_⟩
  ·exact(af.HS S (by simp only[af.jS];rw[Bool.or_eq_true,bne_iff_ne,bne_iff_ne] at h;rw[Bool.and_eq_false_iff,beq_eq_false_iff_ne,beq_eq_false_iff_ne];exact h)).symm
  ·exact⟨x+1,⟨by omega,pj ha (by simpa[af.jS] using h)⟩,by omega,by rw[aw S (by have:=hp.cP;simp only[maxLen];omega)]⟩
 have S:x=c.an.length:=by omega
 subst S;have hm:=hp.fr;have ag:=hp.co;have ad:=hp.to;refine au [6,7] (fun(f:Nat)=>[(5,.int .i64 f)]) (fun f=>f<=c.fr.length/\cS f c.kZ=true) (fun f=>c.fr.length-f) 0 rfl ⟨Nat.zero_le _,rfl⟩ rfl ?_;rintro f ⟨hf,hb⟩;simp only[go_sem];refine⟨fun Z=>⟨by omega,fun V=>?_,fun V=>?_⟩,fun h=>?_⟩
 ·exact(af.zW Z (by simp only[af.kZ];rw[Bool.and_eq_false_iff];left;simpa using V)).symm
 ·refine au [7] (fun(g:Nat)=>[(6,.int .i64 g)]) (fun g=>g<=c.fr.length/\cS g (c.gL f)=true) (fun g=>c.fr.length-g) 0 rfl ⟨Nat.zero_le _,rfl⟩ rfl ?_
  rintro g ⟨hg,hc⟩;simp only[go_sem]
  have ab:(c.co.getD f []).length=c.fr.length:=by
   rw[bne_eq_false_iff_eq] at V;omega
  have W:c.gL f g=if c.to.getD f 0 != c.fr.getD g 0 then(c.co.getD f []).getD g 0 == -1
   else decide (0<=(c.co.getD f []).getD g 0)&&decide ((c.co.getD f []).getD g 0<c.fr.length)&&(c.fr.getD ((c.co.getD f []).getD g 0).toNat 0 == c.fr.getD f 0)&&(c.to.getD ((c.co.getD f []).getD g 0).toNat 0 == c.to.getD g 0):=rfl
  generalize(c.co.getD f []).getD g 0=h at W;refine⟨fun Y=>?_,fun Y=>?_⟩
  ·have step:c.gL f g=true->∃x',(x'<=c.fr.length/\cS x' (c.gL f)=true)/\c.fr.length-x'<c.fr.length-g/\IntKind.i64.wrap ((g:Int)+1)=(x':Int):=fun hh=>⟨g+1,⟨by omega,pj hc hh⟩,by omega,aw Y (by simp only[maxLen];omega)⟩
   refine⟨by omega,by omega,by omega,Y,fun h3=>⟨fun I=>?_,fun I=>?_⟩,fun h3=>⟨fun I=>by simp_all,fun I=>⟨I,by simp at I;omega⟩,fun I=>⟨I,by omega⟩,fun I=>by simpa only[<-Bool.not_or,Bool.not_eq_true'] using I,fun I=>⟨I,by simp at I;omega⟩,fun I=>⟨I,by omega⟩,fun I=>by simpa only[<-Bool.not_or,Bool.not_eq_true'] using I,fun I=>?_,fun I=>?_⟩⟩
   ·exact(af.wC Z Y (by rw[W,if_pos h3];simpa using I)).symm
   ·obtain⟨x',e1,e2,e3⟩:=step (by rw[W,if_pos h3];simpa using I)
    exact⟨x',e1,e2,by rw[e3]⟩
   ·refine(af.wC Z Y ?_).symm
    rw[W,if_neg (by rw[h3];decide)];simp only[Bool.or_eq_true,decide_eq_true_eq,bne_iff_ne] at I;simp only[Bool.and_eq_false_iff,decide_eq_false_iff_not,beq_eq_false_iff_ne];omega
   ·obtain⟨x',e1,e2,e3⟩:=step (by
     rw[W,if_neg (by rw[h3];decide)];simp only[Bool.or_eq_false_iff,decide_eq_false_iff_not,bne_eq_false_iff_eq] at I;simp only[Bool.and_eq_true,decide_eq_true_eq,beq_iff_eq]
     omega)
    exact⟨x',e1,e2,by rw[e3]⟩
  ·have:g=c.fr.length:=by omega
   subst this;refine⟨f+1,⟨by omega,pj hb (by simp only[af.kZ];rw[hc,ab];simp)⟩,by omega,by rw[aw Z (by simp only[maxLen];omega)]⟩
 ·have:f=c.fr.length:=by omega
  subst this;exact(af.GS hp ha hb).symm
def Dr:List Nat:=[0,2,3,4,5,1,6,7,8,9,10]
def Lu:Sl:=ah Tryz.types Tryz.f180 Dr []
theorem U7:aE Tryz.prog Tryz.f180 Dr Lu 1=true:=by decide +kernel
theorem YS(c:af)(hs:c.Shape):aA Tryz.prog 180 [.v c.d] (fd c.fE):=by
 have hm:=hs.fr;have ag:c.fr.length<=maxLen:=by simp only[maxLen];omega
 have a7:=hs.to;have a1:=hs.co;have cI:∀f g:Int,(c.co.getD f.toNat []).getD g.toNat 0=c.bH f g:=fun _ _=>rfl
 have iI:∀x:Int,c.an.getD x.toNat 0=c.fG x:=fun _=>rfl
 refine aQ Tryz.func180 U7 ?_;unfold Lu ah Dr;simp only[go_sem];refine au [] (fun(f:Nat)=>[(7,.int .i64 f)]) (fun f=>f<=c.fr.length/\∀j,j<f->c.eO j=false) (fun f=>c.fr.length-f) 0 rfl ⟨Nat.zero_le _,fun j hj=>by omega⟩ rfl ?_;rintro f ⟨hf,ha⟩;simp only[go_sem];refine⟨fun h=>?_,fun h=>?_⟩
 ·have e1:=hs.jO h
  have e2:=hs.tt e1.1 e1.2;have e3:=hs.Bj e2.1 e2.2;have e4:=hs.lz h;have e5:=hs.tt e4.1 e4.2;have e6:=hs.row f h;simp only[af.fG] at e2 e3 e5;refine⟨h,e1,⟨e2.1,by omega⟩,by omega,fun S=>⟨S,by omega⟩,fun S=>⟨S,by omega⟩,fun S=>⟨S,e4⟩,fun S=>⟨S,e5.1,by omega⟩,fun S=>by simpa only[Bool.not_eq_true'] using S,fun S=>?_,fun S=>?_⟩
  ·rw[af.vD ha h S];rfl
  ·exact⟨f+1,⟨by omega,fun j hj=>by by_cases hjf:j<f;exact ha j hjf;rw[show j=f by omega];exact S⟩,by omega,by rw[aw h ag]⟩
 have:f=c.fr.length:=by omega
 subst this;refine au [9,10] (fun(f:Nat)=>[(8,.int .i64 f)]) (fun f=>f<=c.fr.length/\∀f' W V,f'<f->W<c.fr.length->V<c.fr.length->c.eo f' W V=false) (fun f=>c.fr.length-f) 0 rfl ⟨Nat.zero_le _,fun _ _ _ hj=>by omega⟩ rfl ?_;rintro f ⟨hf,hb⟩;simp only[go_sem];refine⟨fun ao=>?_,fun h=>?_⟩
 ·refine au [10] (fun(g:Nat)=>[(9,.int .i64 g)]) (fun g=>g<=c.fr.length/\∀W V,W<g->V<c.fr.length->c.eo f W V=false) (fun g=>c.fr.length-g) 0 rfl ⟨Nat.zero_le _,fun _ _ hj=>by omega⟩ rfl ?_
  rintro g ⟨hg,hc⟩;simp only[go_sem];refine⟨fun Y=>⟨by omega,Y,fun S=>?_,fun S=>?_⟩,fun h=>?_⟩
  ·refine⟨g+1,⟨by omega,fun W V ab Z=>l5 (P:=fun W=>c.eo f W V=false) (fun j hj=>hc j V hj Z) ?_ W ab⟩,by omega,by rw[aw Y ag]⟩
   rw[bne_iff_ne] at S;exact af.EN S
  ·rw[bne_eq_false_iff_eq] at S
   have e1:=hs.mC ao Y S;refine au [] (fun(h:Nat)=>[(10,.int .i64 h)]) (fun h=>h<=c.fr.length/\∀V,V<h->c.eo f g V=false) (fun h=>c.fr.length-h) 0 rfl ⟨Nat.zero_le _,fun _ hj=>by omega⟩ rfl ?_;rintro h ⟨hh,hd⟩;simp only[go_sem];have e3:=hs.Bj e1.1 e1.2.1;have e4:=hs.row f ao;have e5:=hs.row g Y;have ax:=fun h=>af.EO (h:=h) S
   refine⟨fun ad=>?_,fun I=>?_⟩
   ·have e6:=hs.mC Y ad
    refine⟨by omega,ad,fun I=>⟨I,by omega⟩,fun I=>⟨I,by omega⟩,fun I=>⟨I,e1.1,by rw[a1];exact e1.2.1⟩,fun I=>⟨I,Nat.lt_of_lt_of_eq ad e3.symm⟩,fun I=>⟨I,by omega⟩,fun I=>⟨I,by omega⟩,fun I=>⟨I,by omega⟩,
     fun I=>⟨I,(e6 I).1,by rw[e4];exact(e6 I).2.1⟩,fun I=>?_,fun I=>?_⟩
    ·rw[af.Ge ha ao Y ad (by rw[ax];exact I) hd hc hb];rfl
    ·exact⟨h+1,⟨by omega,l5 hd (by rw[ax];exact I)⟩,by omega,by rw[aw ad ag]⟩
   ·have:h=c.fr.length:=by omega
    subst this;exact⟨g+1,⟨by omega,fun W V ab Z=>l5 (P:=fun W=>c.eo f W V=false) (fun j hj=>hc j V hj Z) (hd V Z) W ab⟩,by omega,by rw[aw Y ag]⟩
  ·refine⟨f+1,⟨by omega,fun f' W V a6 ab Z=>l5 (P:=fun f'=>c.eo f' W V=false) (fun j hj=>hb j W V hj ab Z) (hc W V (by omega) Z) f' a6⟩,by omega,by rw[aw ao ag]⟩
 ·have:f=c.fr.length:=by omega
  subst this;rw[af.tl ha hb];rfl
def Dt:List Nat:=[0,2,1,3]
def Lw:Sl:=ah Tryz.types Tryz.f108 Dt []
theorem U9:aE Tryz.prog Tryz.f108 Dt Lw 1=true:=by decide +kernel
theorem Bb(c:af):aA Tryz.prog 108 [.v c.d] (.bool c.cU):=by
 refine aQ Tryz.func108 U9 ?_;unfold Lw ah Dt;simp only[go_sem];refine aj (YL c) rfl (.inl rfl) ?_;simp only[go_sem];refine⟨fun h=>?_,fun h=>?_⟩
 ·unfold af.cU;rw[Bool.not_eq_true'] at h;rw[h];rfl
 rw[Bool.not_eq_false'] at h;refine aj (YS c (af.dO.1 h)) rfl (.inl rfl) ?_;simp only[fd];simp only[go_sem];unfold af.cU;rw[h];rfl
def Dv:List Nat:=[0,2,1]
def Ly:Sl:=ah Tryz.types Tryz.f111 Dv []
theorem Vb:aE Tryz.prog Tryz.f111 Dv Ly 1=true:=by decide +kernel
theorem uA(a:af)(I:af.cost a<=1048576):aA Tryz.prog 111 [.v (af.d a)] (af.d a):=by
 unfold af.cost at I;refine aQ Tryz.func111 Vb ?_;unfold Ly ah Dv;simp only[go_sem];refine aj (eE a.fr (by omega)) rfl (.inl (bJ _)) ?_;simp only[go_sem];refine aj (eE a.to (by omega)) rfl (.inl (bJ _)) ?_;simp only[go_sem];refine aj (eE a.an (by omega)) rfl (.inl (bJ _)) ?_;simp only[go_sem];refine aj (JC a.co (by omega)) rfl (.inl (ow _)) ?_;simp only[go_sem]
 all_goals rfl
def gq(l:List Int)(x:Int):Int:=if l.findIdx (·== x)<l.length then((l.findIdx (·== x):Nat):Int) else -1
def Dc:List Nat:=[0,1,4,5]
def Le:Sl:=ah Tryz.types Tryz.f257 Dc []
theorem US:aE Tryz.prog Tryz.f257 Dc Le 2=true:=by decide +kernel
theorem JA(l:List Int)(x:Int)(W:l.length<=1048576):aA Tryz.prog 257 [.v (ints l),.v (.int .i64 x)] (.int .i64 (gq l x)):=by
 refine aQ Tryz.func257 US ?_;unfold Le ah Dc;simp only[go_sem];refine au [] (fun i:Nat=>[(3,.int .i64 i)]) (fun i=>i<=l.findIdx (·== x)) (fun i=>l.length-i) 0 (by simp only[go_sem];rfl) (Nat.zero_le _) rfl ?_;intro i hi;have S:=List.findIdx_le_length (p:=(·== x)) (xs:=l);simp only[go_sem];refine⟨fun h1=>⟨h1,fun I=>?_,fun I=>⟨i+1,?_,by omega,by rw[aw h1 (by simp only[maxLen];omega)]⟩⟩,fun h1=>?_⟩
 ·have:l.findIdx (·== x)<=i:=by
   apply Nat.le_of_not_lt;intro V;have:=List.not_of_lt_findIdx V;rw[<-aM (d:=0) h1,I] at this;simp at this
  have e:l.findIdx (·== x)=i:=by omega
  unfold gq;rw[e,if_pos h1]
 ·by_cases hlt:i<l.findIdx (·== x)
  ·omega
  ·have e:l.findIdx (·== x)=i:=by omega
   have:=List.findIdx_getElem (w:=show l.findIdx (·== x)<l.length by omega);simp only[e] at this;rw[<-aM (d:=0) h1,I] at this;cases this
 ·unfold gq
  rw[if_neg (by omega)]
def Dz:List Nat:=[0,1,2,6,3]
def LC:Sl:=ah Tryz.types Tryz.f159 Dz []
theorem Vf:aE Tryz.prog Tryz.f159 Dz LC 3=true:=by decide +kernel
theorem xb(c:af)(f g:Int)(I : 0<=f)(h1:f<c.co.length)(S : 0<=g)(V:g<(c.co.getD f.toNat []).length):aA Tryz.prog 159 [.v c.d,.v (.int .i64 f),.v (.int .i64 g)] (.int .i64 (c.bH f g)):=by
 refine aQ Tryz.func159 Vf ?_;unfold LC ah Dz;simp only[go_sem];exact⟨⟨I,h1⟩,⟨S,V⟩,rfl⟩
def lexB:List Int->List Int->Bool
 | [],[]=>false
 | [],_::_=>true
 | _::_,[]=>false
 | a::l,b::r=>if a=b then lexB l r else decide (a<b)
theorem Rn{a b:List Int}{i:Nat}(I:i<a.length)(S:i<b.length)(h:a.getD i 0=b.getD i 0):lexB (a.drop i) (b.drop i)=lexB (a.drop (i+1)) (b.drop (i+1)):=by
 rw[aM I,aM S] at h;rw[List.drop_eq_getElem_cons I,List.drop_eq_getElem_cons S];simp only[lexB,h,if_true]
def De:List Nat:=[0,1,4,5]
def Lg:Sl:=ah Tryz.types Tryz.f236 De []
theorem UU:aE Tryz.prog Tryz.f236 De Lg 2=true:=by decide +kernel
theorem JB(a b:List Int)(Y:a.length<=1048576):aA Tryz.prog 236 [.v (ints a),.v (ints b)] (.bool (lexB a b)):=by
 refine aQ Tryz.func236 UU ?_;unfold Lg ah De;simp only[go_sem];refine au [] (fun i:Nat=>[(3,.int .i64 i)]) (fun i=>i<=a.length/\i<=b.length/\lexB a b=lexB (a.drop i) (b.drop i)) (fun i=>a.length-i) 0 (by simp only[go_sem];rfl) ⟨Nat.zero_le _,Nat.zero_le _,rfl⟩ rfl ?_;rintro i ⟨hi,W,V⟩;simp only[go_sem];refine⟨fun h=>?_,fun h=>?_⟩
 ·simp only[Bool.and_eq_true,decide_eq_true_eq] at h
  refine⟨h.1,h.2,fun I=>⟨h.1,h.2,?_⟩,fun I=>⟨i+1,⟨h.1,h.2,?_⟩,by omega,by rw[aw h.1 (by simp only[maxLen];omega)]⟩⟩
  ·have S:a.getD i 0≠b.getD i 0:=by simpa using I
   rw[V,List.drop_eq_getElem_cons h.1,List.drop_eq_getElem_cons h.2];rw[aM h.1,aM h.2] at S|-
   simp only[lexB,if_neg S]
  ·have S:a.getD i 0=b.getD i 0:=by simpa using I
   rw[V,Rn h.1 h.2 S]
 ·rw[V]
  by_cases h1:i<a.length
  ·have I:¬i<b.length:=by simp only[h1,decide_true,Bool.true_and,decide_eq_false_iff_not] at h;exact h
   rw[List.drop_eq_getElem_cons h1,List.drop_eq_nil_of_le (show b.length<=i by omega)];simp only[lexB,decide_eq_false_iff_not];omega
  ·rw[List.drop_eq_nil_of_le (show a.length<=i by omega)]
   by_cases I:i<b.length
   ·rw[List.drop_eq_getElem_cons I];simp only[lexB,decide_eq_true_eq];omega
   ·rw[List.drop_eq_nil_of_le (show b.length<=i by omega)];simp only[lexB,decide_eq_false_iff_not];omega
def Dl:List Nat:=[0,1,4,5]
def Ln:Sl:=ah Tryz.types Tryz.f160 Dl []
theorem U2:aE Tryz.prog Tryz.f160 Dl Ln 2=true:=by decide +kernel
theorem ss(a b:List Int)(hl:a.length<=1048576):aA Tryz.prog 160 [.v (ints a),.v (ints b)] (.bool (a == b)):=by
 refine aQ Tryz.func160 U2 ?_;unfold Ln ah Dl;simp only[go_sem];refine⟨fun h=>?_,fun h=>?_⟩
 ·have:a≠b:=fun e=>by subst e;simp at h
  simpa using this
 have S:a.length=b.length:=by simp at h;omega
 refine au [] (fun i:Nat=>[(3,.int .i64 i)]) (fun i=>i<=a.length/\∀j,j<i->a.getD j 0=b.getD j 0) (fun i=>a.length-i) 0 (by simp only[go_sem];rfl) ⟨Nat.zero_le _,fun j hj=>by omega⟩ rfl ?_;rintro i ⟨hi,W⟩;simp only[go_sem];refine⟨fun h1=>⟨h1,by omega,fun I=>?_,fun I=>⟨i+1,⟨by omega,fun j hj=>?_⟩,by omega,by rw[aw h1 (by simp only[maxLen];omega)]⟩⟩,fun h1=>?_⟩
 ·have:a≠b:=fun e=>by subst e;simp at I
  simpa using this
 ·by_cases V:j=i
  ·subst V;simpa using I
  ·exact W j (by omega)
 ·have:a=b:=by
   apply List.ext_getElem S;intro j Y Z;have:=W j (by omega)
   rwa [aM Y,aM Z] at this
  simpa using this
def qj(l:List (List Int))(x:List Int):Int:=if l.findIdx (·== x)<l.length then((l.findIdx (·== x):Nat):Int) else -1
def DM:List Nat:=[0,1,4,5]
def LU:Sl:=ah Tryz.types Tryz.f219 DM []
theorem Vs:aE Tryz.prog Tryz.f219 DM LU 2=true:=by decide +kernel
theorem Y2(l:List (List Int))(x:List Int)(Y:l.length<=1048576)(W:∀i,i<l.length->(l.getD i []).length<=1048576):aA Tryz.prog 219 [.v (aC l),.v (ints x)] (.int .i64 (qj l x)):=by
 refine aQ Tryz.func219 Vs ?_;unfold LU ah DM;simp only[go_sem];refine au [] (fun i:Nat=>[(3,.int .i64 i)]) (fun i=>i<=l.findIdx (·== x)) (fun i=>l.length-i) 0 (by simp only[go_sem];rfl) (Nat.zero_le _) rfl ?_;intro i hi;have S:=List.findIdx_le_length (p:=(·== x)) (xs:=l);simp only[go_sem];refine⟨fun h1=>⟨h1,aj (ss _ x (W i h1)) rfl (.inl rfl) ?_⟩,fun h1=>?_⟩
 ·simp only[go_sem]
  refine⟨fun I=>?_,fun I=>⟨i+1,?_,by omega,by rw[aw h1 (by simp only[maxLen];omega)]⟩⟩
  ·have:l.findIdx (·== x)<=i:=by
    apply Nat.le_of_not_lt;intro V;have:=List.not_of_lt_findIdx V;rw[<-aM (d:=[]) h1,I] at this;simp at this
   have e:l.findIdx (·== x)=i:=by omega
   unfold qj;rw[e,if_pos h1]
  ·by_cases hlt:i<l.findIdx (·== x)
   ·omega
   ·have e:l.findIdx (·== x)=i:=by omega
    have:=List.findIdx_getElem (w:=show l.findIdx (·== x)<l.length by omega);simp only[e] at this;rw[<-aM (d:=[]) h1,I] at this;cases this
 ·unfold qj
  rw[if_neg (by omega)]
end Go.D3
namespace Go.D3
open Go
def dK(l:List Int)(a b:Int):List Int:=l.map fun x=>if x=b then a else x
def bV(l:List Int)(P:List (List Int)):List Int:=P.foldl (fun l p=>dK l (l.getD (p.getD 0 0).toNat 0) (l.getD (p.getD 1 0).toNat 0)) l
def fL(l:List Int):List Int:=l.foldl (fun s x=>if x∈s then s else s++[x]) []
theorem Q3{l:List Int}{P:List (List Int)}{p:List Int}:bV l (P++[p])=dK (bV l P) ((bV l P).getD (p.getD 0 0).toNat 0) ((bV l P).getD (p.getD 1 0).toNat 0):=by
 unfold bV;rw[List.foldl_append];rfl
theorem iY{l:List Int}{a b:Int}:(dK l a b).length=l.length:=List.length_map _
theorem pR{l:List Int}{P:List (List Int)}:(bV l P).length=l.length:=by
 induction P generalizing l with
 | nil=>rfl
 | cons p P I=>show(bV _ P).length=_;rw[I,iY]
theorem si{l:List Int}{a b:Int}{i:Nat}(h:i<l.length):(dK l a b).getD i 0=if l.getD i 0=b then a else l.getD i 0:=by
 rw[aM (by rw[iY];exact h),aM h];unfold dK;rw[List.getElem_map]
theorem Xr{l:List Int}{a b:Int}{i j:Nat}(hi:i<l.length)(I:j<l.length)(h:l.getD i 0=l.getD j 0):(dK l a b).getD i 0=(dK l a b).getD j 0:=by
 rw[si hi,si I,h]
theorem Q2{P:List (List Int)}:∀{l:List Int}{i j:Nat},i<l.length->j<l.length->l.getD i 0=l.getD j 0->(bV l P).getD i 0=(bV l P).getD j 0:=by
 induction P with
 | nil=>exact fun _ _ h=>h
 | cons p P S =>
  intro l i j hi I h;show(bV (dK _ _ _) P).getD i 0=(bV (dK _ _ _) P).getD j 0;exact S (by rw[iY];exact hi) (by rw[iY];exact I) (Xr hi I h)
theorem vU{P:List (List Int)}:∀{l:List Int}{p:List Int}{i j:Nat},p∈P->p.getD 0 0=i->p.getD 1 0=j->i<l.length->j<l.length->(bV l P).getD i 0=(bV l P).getD j 0:=by
 induction P with
 | nil=>intro l p i j h;cases h
 | cons q P V =>
  intro l p i j hp S h1 hi I;show(bV (dK _ _ _) P).getD i 0=(bV (dK _ _ _) P).getD j 0;rcases List.mem_cons.1 hp with rfl | hp
  ·refine Q2 (by rw[iY];exact hi) (by rw[iY];exact I) ?_
   rw[si hi,si I,S,h1,Int.toNat_natCast,Int.toNat_natCast,if_pos rfl];split<;>rfl
  ·exact V hp S h1 (by rw[iY];exact hi) (by rw[iY];exact I)
theorem Mk{l:List Int}:∀{s:List Int},s.Nodup->(l.foldl (fun s x=>if x∈s then s else s++[x]) s).Nodup/\∀x,x∈l.foldl (fun s x=>if x∈s then s else s++[x]) s↔x∈s\/x∈l:=by
 induction l with
 | nil=>exact fun h=>⟨h,fun x=>by simp⟩
 | cons y l I =>
  intro s h;rw[List.foldl_cons];by_cases hy:y∈s
  ·rw[if_pos hy]
   refine⟨(I h).1,fun x=>?_⟩;rw[(I h).2 x,List.mem_cons];constructor
   ·rintro(h1 | h1)
    ·exact .inl h1
    ·exact .inr (.inr h1)
   ·rintro(h1 | rfl | h1)
    ·exact .inl h1
    ·exact .inl hy
    ·exact .inr h1
  ·rw[if_neg hy]
   have S:(s++[y]).Nodup:=by
    rw[List.nodup_append];refine⟨h,by simp,fun a Y b V=>?_⟩;rw[List.mem_singleton] at V;subst V;exact fun W=>hy (W▸Y)
   refine⟨(I S).1,fun x=>?_⟩;rw[(I S).2 x,List.mem_append,List.mem_singleton,List.mem_cons,or_assoc]
theorem Ml{l:List Int}:(fL l).Nodup:=(Mk List.nodup_nil).1
theorem sv{l:List Int}{x:Int}:x∈fL l↔x∈l:=by
 have:=(Mk (l:=l) List.nodup_nil).2 x;unfold fL;rw[this];exact⟨fun h=>h.resolve_left (by simp),.inr⟩
theorem wz:∀{A B:List Int},A.Nodup->(∀x∈A,x∈B)->A.length<=B.length
 | [],_,_,_=>Nat.zero_le _
 | x::A,B,h,hs=>by
  rw[List.nodup_cons] at h;have I:=hs x List.mem_cons_self;have:=wz (A:=A) (B:=B.erase x) h.2 fun y S=>(List.mem_erase_of_ne (show y≠x from fun e=>h.1 (by rw[<-e];exact S))).2 (hs y (List.mem_cons_of_mem _ S))
  rw[List.length_erase_of_mem I] at this;have:=List.length_pos_of_mem I;rw[List.length_cons];omega
theorem vL{l:List Int}{i:Nat}(h:i<l.length):l.getD i 0∈l:=by rw[aM h];exact List.getElem_mem _
theorem Qn{p q:List Int}(Y:q.length=p.length)(h:∀i j,i<p.length->j<p.length->p.getD i 0=p.getD j 0->q.getD i 0=q.getD j 0){u v:Nat}(hu:u<p.length)(I:v<p.length)(V:p.getD u 0≠p.getD v 0)(he:q.getD u 0=q.getD v 0):(fL q).length<(fL p).length:=by
 have hg:∀i,i<p.length->q.getD (p.findIdx (·== p.getD i 0)) 0=q.getD i 0:=fun i hi=>by
  have h1:p.findIdx (·== p.getD i 0)<p.length:=List.findIdx_lt_length_of_exists ⟨_,vL hi,by simp⟩
  have S:p.getD (p.findIdx (·== p.getD i 0)) 0=p.getD i 0:=by
   rw[aM h1];have:=List.findIdx_getElem (w:=h1);simpa using this
  exact h _ _ h1 hi S
 have hm:p.getD v 0∈fL p:=sv.2 (vL I)
 have hle:(fL q).length<=(((fL p).erase (p.getD v 0)).map fun x=>q.getD (p.findIdx (·== x)) 0).length:=by
  refine wz Ml fun x W=>?_
  obtain⟨i,hi,rfl⟩:=List.getElem_of_mem (sv.1 W);rw[<-aM (d:=0) hi,List.mem_map];by_cases hc:p.getD i 0=p.getD v 0
  ·refine⟨p.getD u 0,(List.mem_erase_of_ne V).2 (sv.2 (vL hu)),?_⟩
   rw[hg u hu,he];exact(h i v (by omega) I hc).symm
  ·exact⟨p.getD i 0,(List.mem_erase_of_ne hc).2 (sv.2 (vL (by omega))),hg i (by omega)⟩
 rw[List.length_map,List.length_erase_of_mem hm] at hle;have:=List.length_pos_of_mem hm;omega
theorem Zx{q:List Int}{g:Int->Int}:(fL (q.map g)).length<=(fL q).length:=by
 have:=wz (A:=fL (q.map g)) (B:=(fL q).map g) Ml fun x I=>by
  obtain⟨y,S,rfl⟩:=List.mem_map.1 (sv.1 I);exact List.mem_map.2 ⟨y,sv.2 S,rfl⟩
 rwa [List.length_map] at this
theorem Qq{p l:List Int}{P:List (List Int)}{k:Int->Nat}(hk:∀i,i<p.length->k (p.getD i 0)<p.length)(S:∀i,i<p.length->[(k (p.getD i 0):Int),(i:Int)]∈P){u v:Nat}(hu:u<p.length)(Z:v<p.length)(Y:p.getD u 0≠p.getD v 0)(I:[(u:Int),(v:Int)]∈P)(W:l.length=p.length) :
  (fL (bV l P)).length<(fL p).length:=by
 refine Qn (by rw[pR,W]) (fun i j hi V e=>?_) hu Z Y (vU I rfl rfl (by omega) (by omega));have a:=vU (l:=l) (S i hi) rfl rfl (by have:=hk i hi;omega) (by omega);have b:=vU (l:=l) (S j V) rfl rfl (by have:=hk j V;omega) (by omega);rw[e] at a;exact a.symm.trans b
end Go.D3
namespace Go.D3
open Go
theorem Xs{n:Nat}{β:Type}{φ:Nat->β}{l:List Int}{a b:Nat}(hl:l.length=n)(h:∀i,i<n->∃m:Nat,m<n/\l.getD i 0=m/\φ m=φ i)(S:a<n)(V:b<n)(I:φ a=φ b) :
  ∀i,i<n->∃m:Nat,m<n/\(dK l (l.getD a 0) (l.getD b 0)).getD i 0=m/\φ m=φ i:=fun i hi=>by
 rw[si (by omega)];obtain⟨m,m1,m2,m3⟩:=h i hi;obtain⟨x,W,Y,Z⟩:=h a S;obtain⟨y,y1,y2,y3⟩:=h b V;split
 ·rename_i e
  refine⟨x,W,Y,?_⟩;have:m=y:=by omega
  rw[Z,I,<-y3,<-this,m3]
 ·exact⟨m,m1,m2,m3⟩
theorem zA{n:Nat}{β:Type}{φ:Nat->β}:∀{P:List (List Int)}{l:List Int},l.length=n->(∀i,i<n->∃m:Nat,m<n/\l.getD i 0=m/\φ m=φ i) ->
  (∀p∈P,∃a b:Nat,a<n/\b<n/\p.getD 0 0=a/\p.getD 1 0=b/\φ a=φ b)->∀i,i<n->∃m:Nat,m<n/\(bV l P).getD i 0=m/\φ m=φ i
 | [],l,S,h,_=>h
 | p::P,l,S,h,hP=>by
  obtain⟨a,b,W,Y,V,h1,I⟩:=hP p List.mem_cons_self;show ∀i,i<n->∃m:Nat,m<n/\(bV (dK l _ _) P).getD i 0=m/\φ m=φ i;rw[V,h1,Int.toNat_natCast,Int.toNat_natCast];exact zA (by rw[iY,S]) (Xs S h W Y I) fun q Z=>hP q (List.mem_cons_of_mem _ Z)
structure gI(L:List Int)(i:Nat)(seen out:List Int):Prop where
 nd:seen.Nodup
 len:out.length=i
 o:∀j,j<i->∃k:Nat,k<seen.length/\out.getD j 0=k/\seen.getD k 0=L.getD j 0
 s:∀k:Nat,k<seen.length->∃j,j<i/\out.getD j 0=k
 f:∀j (m:Nat),j<i->(∀q,q<j->out.getD q 0<m)->out.getD j 0<=m
theorem ee{α:Type}{l:List α}{x d:α}{j:Nat}(h:j<=l.length):(l++[x]).getD j d=if j=l.length then x else l.getD j d:=by
 rw[List.getD_eq_getElem?_getD,List.getD_eq_getElem?_getD];by_cases e:j=l.length
 ·rw[if_pos e,List.getElem?_append_right (by omega),show j-l.length=0 by omega];rfl
 ·rw[if_neg e,List.getElem?_append_left (by omega)]
theorem gI.zero{L:List Int}:gI L 0 [] []:=⟨List.nodup_nil,rfl,fun _ I=>absurd I (Nat.not_lt_zero _),fun _ hk=>absurd hk (Nat.not_lt_zero _),fun _ _ I=>absurd I (Nat.not_lt_zero _)⟩
theorem gI.le{L:List Int}{i:Nat}{seen out:List Int}(h:gI L i seen out){m:Nat}(hm:∀q,q<i->out.getD q 0<m):seen.length<=m:=by
 cases hl:seen.length with
 | zero=>omega
 | succ k =>
  obtain⟨j,h1,I⟩:=h.s k (by omega);have:=hm j h1;omega
theorem gI.old{L:List Int}{i:Nat}{seen out:List Int}(h:gI L i seen out){k:Nat}(hk:k<seen.length)(hx:seen.getD k 0=L.getD i 0):gI L (i+1) seen (out++[(k:Int)]):=by
 have Y:=h.len;have I:∀{j},j<i->(out++[(k:Int)]).getD j 0=out.getD j 0:=fun W=>by rw[ee (by omega),if_neg (by omega)]
 have he:(out++[(k:Int)]).getD i 0=k:=by rw[ee (by omega),if_pos Y.symm]
 refine⟨h.nd,by rw[List.length_append,Y];rfl,fun j W=>?_,fun k' V=>?_,fun j m W hm=>?_⟩
 ·by_cases hji:j<i
  ·rw[I hji];exact h.o j hji
  ·rw[show j=i by omega,he];exact⟨k,hk,rfl,hx⟩
 ·obtain⟨j,h1,Z⟩:=h.s k' V
  exact⟨j,by omega,by rw[I h1,Z]⟩
 ·by_cases hji:j<i
  ·rw[I hji]
   exact h.f j m hji fun q S=>by have:=hm q S;rwa [I (by omega)] at this
  ·obtain rfl:j=i:=by omega
   rw[he];have:=h.le (m:=m) fun q S=>by have:=hm q S;rwa [I S] at this
   omega
theorem gI.new{L:List Int}{i:Nat}{seen out:List Int}(h:gI L i seen out)(hx:L.getD i 0 ∉ seen):gI L (i+1) (seen++[L.getD i 0]) (out++[(seen.length:Int)]):=by
 have Z:=h.len;have I:∀{j},j<i->(out++[(seen.length:Int)]).getD j 0=out.getD j 0:=fun Y=>by rw[ee (by omega),if_neg (by omega)]
 have he:(out++[(seen.length:Int)]).getD i 0=seen.length:=by rw[ee (by omega),if_pos Z.symm]
 refine⟨?_,by rw[List.length_append,Z];rfl,fun j Y=>?_,fun k' V=>?_,fun j m Y hm=>?_⟩
 ·rw[List.nodup_append]
  refine⟨h.nd,by simp,fun a ha b W=>?_⟩;rw[List.mem_singleton] at W;rintro rfl;exact hx (W▸ha)
 ·by_cases hji:j<i
  ·rw[I hji]
   obtain⟨k,k1,k2,k3⟩:=h.o j hji;exact⟨k,by rw[List.length_append];omega,k2,by rw[ee (by omega),if_neg (by omega),k3]⟩
  ·rw[show j=i by omega,he]
   exact⟨seen.length,by rw[List.length_append];exact Nat.lt_succ_self _,rfl,by rw[ee (Nat.le_refl _),if_pos rfl]⟩
 ·rw[List.length_append,List.length_singleton] at V
  by_cases hk:k'<seen.length
  ·obtain⟨j,h1,h2⟩:=h.s k' hk
   exact⟨j,by omega,by rw[I h1,h2]⟩
  ·exact⟨i,by omega,by rw[he];omega⟩
 ·by_cases hji:j<i
  ·rw[I hji]
   exact h.f j m hji fun q S=>by have:=hm q S;rwa [I (by omega)] at this
  ·obtain rfl:j=i:=by omega
   rw[he];have:=h.le (m:=m) fun q S=>by have:=hm q S;rwa [I S] at this
   omega
def ky(p:List Int×List Int)(x:Int):List Int×List Int:=if gq p.1 x<0 then(p.1++[x],p.2++[(p.1.length:Int)]) else(p.1,p.2++[gq p.1 x])
def eM(l:List Int):List Int×List Int:=l.foldl ky ([],[])
theorem yq{l:List Int}{x:Int}:eM (l++[x])=ky (eM l) x:=by unfold eM;rw[List.foldl_append];rfl
def cT(l:List Int):List Int:=(eM l).2
theorem QG{l:List Int}{x:Int}(h:¬gq l x<0):∃k:Nat,gq l x=k/\k<l.length/\l.getD k 0=x:=by
 unfold gq at h|-
 by_cases I:l.findIdx (·== x)<l.length
 ·refine⟨l.findIdx (·== x),by rw[if_pos I],I,?_⟩
  have:=List.findIdx_getElem (w:=I);rw[aM I];simpa using this
 ·rw[if_neg I] at h;omega
theorem QF{l:List Int}{x:Int}(h:gq l x<0):x ∉ l:=fun hm=>by
 unfold gq at h;rw[if_pos (List.findIdx_lt_length_of_exists ⟨x,hm,by simp⟩)] at h;omega
theorem pv{L:List Int}:∀i,i<=L.length->gI L i (eM (L.take i)).1 (eM (L.take i)).2
 | 0,_=>gI.zero
 | i+1,h=>by
  have S:=pv (L:=L) i (by omega);rw[b7 (show i<L.length by omega) 0,yq];unfold ky;split
  ·rename_i I;exact S.new (QF I)
  ·rename_i I
   obtain⟨k,h1,V,W⟩:=QG I;rw[h1];exact S.old V W
structure nI(L out:List Int):Prop where
 len:out.length=L.length
 ge:∀i,i<L.length->0<=out.getD i 0/\out.getD i 0<L.length
 f:∀i (m:Nat),i<L.length->(∀q,q<i->out.getD q 0<m)->out.getD i 0<=m
 eq:∀i j,i<L.length->j<L.length->(out.getD i 0=out.getD j 0↔L.getD i 0=L.getD j 0)
theorem HQ{l:List Int}(h:l.Nodup){a b:Nat}(I:a<l.length)(S:b<l.length)(e:l.getD a 0=l.getD b 0):a=b:=by
 rw[aM I,aM S] at e;exact(List.getElem_inj h).1 e
theorem gI.sle{L:List Int}{i:Nat}{seen out:List Int}(h:gI L i seen out)(hi:i<=L.length):seen.length<=i:=by
 have:seen.length<=(L.take i).length:=wz h.nd fun x V=>by
  obtain⟨k,hk,rfl⟩:=List.getElem_of_mem V;obtain⟨j,I,Y⟩:=h.s k hk;obtain⟨W,Z,h6,S⟩:=h.o j I;rw[<-aM (d:=0) hk,show k=W by omega,S,aM (show j<L.length by omega)];exact List.mem_take_iff_getElem.2 ⟨j,by omega,rfl⟩
 rw[List.length_take] at this;omega
theorem gI.done{L seen out:List Int}(h:gI L L.length seen out):nI L out:=by
 refine⟨h.len,fun i hi=>?_,h.f,fun i j hi Y=>?_⟩
 ·obtain⟨k,h1,Z,_⟩:=h.o i hi
  refine⟨by omega,?_⟩;have:=h.sle (Nat.le_refl _);omega
 ·obtain⟨a,I,a2,a3⟩:=h.o i hi
  obtain⟨b,S,V,W⟩:=h.o j Y;rw[a2,V,<-a3,<-W];exact⟨fun e=>by rw[show a=b by omega],fun e=>by rw[HQ h.nd I S e]⟩
theorem s6{L:List Int}:nI L (cT L):=by
 have:=pv (L:=L) L.length (Nat.le_refl _);rw[List.take_length] at this;exact this.done
theorem H3{n:Nat}{β:Type}{φ:Nat->β}(i:Nat)(hi:i<n):∃m:Nat,m<n/\(((List.range n).map fun j:Nat=>(j:Int))).getD i 0=m/\φ m=φ i :=
 ⟨i,hi,by rw[List.getD_eq_getElem?_getD,List.getElem?_map,List.getElem?_range hi];rfl,rfl⟩
def bk(n:Nat):List Int:=(List.range n).map fun j:Nat=>(j:Int)
theorem dq{n:Nat}:(bk n).length=n:=by simp[bk]
theorem nI.same{n:Nat}{P:List (List Int)}{out:List Int}(h:nI (bV (bk n) P) out){β:Type}(φ:Nat->β)(I:∀p∈P,∃a b:Nat,a<n/\b<n/\p.getD 0 0=a/\p.getD 1 0=b/\φ a=φ b)
  {i j:Nat} (hi:i<n) (V:j<n) (e:out.getD i 0=out.getD j 0):φ i=φ j:=by
 have Z:(bV (bk n) P).length=n:=by rw[pR,dq]
 rw[h.eq i j (by omega) (by omega)] at e;obtain⟨a,_,W,a2⟩:=zA (φ:=φ) dq H3 I i hi;obtain⟨b,_,Y,S⟩:=zA (φ:=φ) dq H3 I j V;rw[<-a2,<-S,show a=b by omega]
end Go.D3
namespace Go.D3
open Go
set_option maxRecDepth 100000
def mn(mp:List (List Int))(l:List Int):List (List Int):=l.foldl (fun m (e:Int)=>m.set e.toNat (m.getD e.toNat []++[-1])) mp
theorem NZ{mp:List (List Int)}{l:List Int}{e:Int}:mn mp (l++[e])=(mn mp l).set e.toNat ((mn mp l).getD e.toNat []++[-1]):=by
 unfold mn;rw[List.foldl_append];rfl
theorem vb{mp:List (List Int)}:∀{l:List Int},(mn mp l).length=mp.length:=by
 intro l;induction l generalizing mp with
 | nil=>rfl
 | cons e l I=>show(mn _ l).length=_;rw[I,List.length_set]
theorem vM{α:Type}{l:List α}{i j:Nat}{x d:α}(h:i<l.length):(l.set i x).getD j d=if j=i then x else l.getD j d:=by
 rw[List.getD_eq_getElem?_getD,List.getElem?_set];by_cases I:i=j
 ·subst I;rw[if_pos rfl,if_pos h,if_pos rfl];rfl
 ·rw[if_neg I,if_neg (Ne.symm I),List.getD_eq_getElem?_getD]
theorem Ev{mp:List (List Int)}{fr:List Int}{x:Int}:∀{n:Nat},n<=mp.length->∀e:Nat,(mn mp (rX fr x n)).getD e []=if e<n/\fr.getD e 0=x then mp.getD e []++[-1] else mp.getD e []
 | 0,_,e=>by rw[if_neg (by omega)];rfl
 | n+1,W,e=>by
  have S:=fun e=>Ev (mp:=mp) (fr:=fr) (x:=x) (n:=n) (by omega) e
  rw[Wl];by_cases h:fr.getD n 0=x
  ·rw[if_pos h,NZ,Int.toNat_natCast,vM (by rw[vb];omega),S n,S e,if_neg (show ¬(n<n/\fr.getD n 0=x) from fun I=>Nat.lt_irrefl _ I.1)]
   by_cases he:e=n
   ·subst he;rw[if_pos rfl,if_pos ⟨by omega,h⟩]
   ·rw[if_neg he]
    by_cases hc:e<n/\fr.getD e 0=x
    ·rw[if_pos hc,if_pos ⟨by omega,hc.2⟩]
    ·rw[if_neg hc,if_neg (fun I=>hc ⟨by omega,I.2⟩)]
  ·rw[if_neg h,List.append_nil,S e]
   by_cases hc:e<n/\fr.getD e 0=x
   ·rw[if_pos hc,if_pos ⟨by omega,hc.2⟩]
   ·rw[if_neg hc,if_neg]
    rintro⟨h1,V⟩;by_cases he:e=n
    ·subst he;exact h V
    ·exact hc ⟨by omega,V⟩
structure xK(s:aa)(d:bC):Prop where
 nd:(d.sz.length:Int)=s.nd
 mp:d.mp.length=s.fr.length
 pa:∀i,i<d.sz.length->0<=d.sz.getD i 0/\d.sz.getD i 0<=16
 len:∀e,e<d.mp.length->((d.mp.getD e []).length:Int)=d.sz.getD (s.fr.getD e 0).toNat 0
 val:∀e i,e<d.mp.length->i<(d.mp.getD e []).length->-1<=(d.mp.getD e []).getD i 0/\(d.mp.getD e []).getD i 0<d.sz.getD (s.to.getD e 0).toNat 0
def bC.can(s:aa)(d:bC)(c:bL):Bool :=
 c.okB&&(if c.kd=1 then bq c.fi 0 (s.nd-1)&&!(d.sz.getD c.fi.toNat 0 == 16)
  else bq c.fi 0 ((s.fr.length:Int)-1)&&bq c.se 0 (d.sz.getD (s.fr.getD c.fi.toNat 0).toNat 0-1)&&bq c.th 0 (d.sz.getD (s.to.getD c.fi.toNat 0).toNat 0-1))
def bC.app(s:aa)(d:bC)(c:bL):bC :=
 if c.kd=1 then⟨d.sz.set c.fi.toNat (d.sz.getD c.fi.toNat 0+1),mn d.mp (rX s.fr c.fi s.fr.length)⟩
 else⟨d.sz,d.mp.set c.fi.toNat ((d.mp.getD c.fi.toNat []).set c.se.toNat c.th)⟩
structure iM(s:aa):Prop where
 n0 : 0<=s.nd
 n8:s.nd<=8
 f8:s.fr.length<=8
 to:s.to.length=s.fr.length
 fr:bI s.nd s.fr=true
 BW:bI s.nd s.to=true
theorem ic{s:aa}(h:s.fI=true):iM s:=by
 simp only[aa.fI,Bool.and_eq_true,decide_eq_true_eq] at h;obtain⟨h1,V,I,W,Y⟩:=h;have S : 0<=s.nd/\s.nd<=8:=by unfold bq at h1;simpa using h1
 exact⟨S.1,S.2,V,I,W,Y⟩
theorem xK.app{s:aa}{d:bC}{c:bL}(hs:iM s)(h:xK s d)(W:d.can s c=true):xK s (d.app s c):=by
 unfold bC.can at W;rw[Bool.and_eq_true] at W;unfold bC.app;by_cases hk:c.kd=1
 ·rw[if_pos hk]
  rw[if_pos hk] at W;simp only[Bool.and_eq_true,bq,decide_eq_true_eq,Bool.not_eq_true',beq_eq_false_iff_ne] at W;obtain⟨_,⟨h0,h1⟩,ax⟩:=W;have ag:=h.nd;have V:c.fi.toNat<d.sz.length:=by omega
  have Z:=h.mp;have I:∀j,(d.sz.set c.fi.toNat (d.sz.getD c.fi.toNat 0+1)).getD j 0=if j=c.fi.toNat then d.sz.getD c.fi.toNat 0+1 else d.sz.getD j 0:=fun j=>vM V
  have ab:∀e,(mn d.mp (rX s.fr c.fi s.fr.length)).getD e []=if e<s.fr.length/\s.fr.getD e 0=c.fi then d.mp.getD e []++[-1] else d.mp.getD e []:=Ev (by omega)
  have ao:=h.pa _ V;refine⟨by simpa using ag,by rw[vb];exact Z,fun i hi=>?_,fun e he=>?_,fun e i he hi=>?_⟩
  ·simp only[List.length_set] at hi
   simp only[I];split
   ·omega
   ·exact h.pa i hi
  ·simp only[vb] at he
   simp only[I,ab];have a1:=db hs.fr (show e<s.fr.length by omega);have hle:=h.len e he;by_cases Y:s.fr.getD e 0=c.fi
   ·rw[if_pos ⟨by omega,Y⟩,Y,if_pos rfl,List.length_append,<-Y]
    simp only[List.length_cons,List.length_nil];omega
   ·rw[if_neg (fun S=>Y S.2),if_neg (fun S=>Y (by omega))]
    exact hle
  ·simp only[vb] at he
   simp only[I];simp only[ab] at hi|-
   have a6:=db hs.BW (show e<s.to.length by rw[hs.to];omega)
   have up:∀v:Int,v<d.sz.getD (s.to.getD e 0).toNat 0->v<if(s.to.getD e 0).toNat=c.fi.toNat then d.sz.getD c.fi.toNat 0+1 else d.sz.getD (s.to.getD e 0).toNat 0:=by
    intro v hv;split
    ·rename_i S;rw[S] at hv;omega
    ·exact hv
   have ad : -1<d.sz.getD (s.to.getD e 0).toNat 0:=by have:=(h.pa (s.to.getD e 0).toNat (by omega)).1;omega
   by_cases Y:e<s.fr.length/\s.fr.getD e 0=c.fi
   ·rw[if_pos Y] at hi|-
    rw[List.getD_eq_getElem?_getD,List.getElem?_append];by_cases hi2:i<(d.mp.getD e []).length
    ·rw[if_pos hi2,<-List.getD_eq_getElem?_getD]
     have:=h.val e i he hi2;exact⟨this.1,up _ this.2⟩
    ·rw[if_neg hi2]
     have:i-(d.mp.getD e []).length=0:=by rw[List.length_append,List.length_cons,List.length_nil] at hi;omega
     rw[this];exact⟨by simp,up _ (by simpa using ad)⟩
   ·rw[if_neg Y] at hi|-
    have:=h.val e i he hi;exact⟨this.1,up _ this.2⟩
 ·rw[if_neg hk]
  rw[if_neg hk] at W;simp only[Bool.and_eq_true,bq,decide_eq_true_eq] at W;obtain⟨_,⟨⟨h0,h1⟩,h2,h3⟩,h4,h5⟩:=W;have Z:=h.mp;have V:c.fi.toNat<d.mp.length:=by omega
  have I:∀e,(d.mp.set c.fi.toNat ((d.mp.getD c.fi.toNat []).set c.se.toNat c.th)).getD e []=if e=c.fi.toNat then(d.mp.getD c.fi.toNat []).set c.se.toNat c.th else d.mp.getD e []:=fun e=>vM V
  have hl:=h.len _ V;refine⟨h.nd,by simpa using Z,h.pa,fun e he=>?_,fun e i he hi=>?_⟩
  ·simp only[List.length_set] at he
   simp only[I];split
   ·rename_i S;rw[List.length_set,S];exact hl
   ·exact h.len e he
  ·simp only[List.length_set] at he
   simp only[I] at hi|-
   split at hi
   ·rename_i S
    rw[if_pos S,vM (by omega)];subst S;split
    ·omega
    ·exact h.val _ i he (by simpa using hi)
   ·rename_i S
    rw[if_neg S];exact h.val e i he hi
end Go.D3
namespace Go.D3
open Go
set_option maxHeartbeats 4000000
set_option maxRecDepth 100000
end Go.D3
namespace Go.D3
open Go
set_option maxHeartbeats 4000000
set_option maxRecDepth 100000
theorem iB{s:aa}{sz:List Int}{mp:List (List Int)}(h:s.du sz mp=true):(sz.length:Int)=s.nd/\bI 17 sz=true/\mp.length=s.fr.length /\
  ∀e,e<mp.length->((mp.getD e []).length:Int)=sz.getD (s.fr.getD e 0).toNat 0/\bI (sz.getD (s.to.getD e 0).toNat 0) (mp.getD e [])=true:=by
 unfold aa.du at h;simp only[Bool.and_eq_true,beq_iff_eq,List.all_eq_true,List.mem_range] at h;obtain⟨⟨⟨h1,I⟩,S⟩,V⟩:=h;exact⟨h1,I,S,fun e he=>by have:=V e he;unfold aa.iw at this;simpa using this⟩
theorem tD{s:aa}{sz:List Int}{mp:List (List Int)}(V:s.du sz mp=true):∀{l:List Int}{x r y:Int},bp s.fr s.to x l=some y->0<=r->r<sz.getD x.toNat 0->kM mp r l
 | [],_,_,_,_,_,_=>trivial
 | e::l,x,r,y,I,Y,h1=>by
  obtain⟨_,_,Z,hm⟩:=iB V;rw[bp] at I;by_cases hc:(bq e 0 ((s.fr.length:Int)-1)&&s.fr.getD e.toNat 0 == x)=true
  ·rw[if_pos hc] at I
   simp only[Bool.and_eq_true,beq_iff_eq,bq,decide_eq_true_eq] at hc;obtain⟨hlen,S⟩:=hm e.toNat (by omega);rw[hc.2] at hlen;have W:=db S (i:=r.toNat) (by omega);exact⟨by omega,⟨Y,by omega⟩,tD V I W.1 W.2⟩
  ·rw[if_neg hc] at I;cases I
theorem pE{s:aa}{p:U}{y:Int}(h:s.aO p=some y):(0<=p.st/\p.st<s.nd)/\p.ed.length<=6/\bp s.fr s.to p.st p.ed=some y:=by
 unfold aa.aO at h;split at h
 ·rename_i I
  simp only[Bool.and_eq_true,bq,decide_eq_true_eq] at I;exact⟨⟨I.1.1,by omega⟩,I.2,h⟩
 ·cases h
theorem ok_eq{s:aa}(h:s.ok=true){i:Nat}(hi:i<s.lf.length):∃y,s.aO (s.lf.getD i U.zero)=some y/\s.aO (s.rt.getD i U.zero)=some y/\(s.lf.getD i U.zero).st=(s.rt.getD i U.zero).st:=by
 unfold aa.ok at h;rw[Bool.and_eq_true] at h;have:=List.all_eq_true.1 h.2 i (List.mem_range.2 hi);unfold aa.te at this;cases hp:s.aO (s.lf.getD i U.zero) with
 | none=>rw[hp] at this;cases this
 | some a =>
  cases hq:s.aO (s.rt.getD i U.zero) with
  | none=>rw[hp,hq] at this;cases this
  | some b =>
   rw[hp,hq] at this;simp only[Bool.and_eq_true,beq_iff_eq] at this;exact⟨a,rfl,by rw[this.2],this.1⟩
theorem eX{s:aa}(h:s.ok=true):s.fI=true/\s.lf.length<=8/\s.rt.length=s.lf.length:=by
 unfold aa.ok aa.jn at h;simp only[Bool.and_eq_true,decide_eq_true_eq] at h;exact⟨h.1.1,h.1.2.1,h.1.2.2⟩
theorem yj{s:aa}{sz:List Int}{mp:List (List Int)}(h:s.ok=true)(S:s.du sz mp=true):s.yi sz mp:=by
 refine⟨(eX h).2.2,fun i hi=>?_⟩;obtain⟨y,h1,W,Y⟩:=ok_eq h hi;obtain⟨Z,a2,a3⟩:=pE h1;obtain⟨b1,b2,V⟩:=pE W;obtain⟨c1,_⟩:=iB S;exact⟨by omega,fun r I=>⟨tD S a3 (by omega) I,tD S V (by omega) (by rw[<-Y];exact I)⟩⟩
def bC.all(s:aa):bC->List bL->Option bC
 | d,[]=>some d
 | d,c::r=>if d.can s c=true then bC.all s (d.app s c) r else none
end Go.D3
namespace Go.D3
open Go Proofs
set_option maxHeartbeats 4000000
set_option maxRecDepth 100000
theorem Gk{fr to:List Int}:∀{l:List Int}{x:Int},bI fr.length l=false->bp fr to x l=none
 | [],x,h=>by cases h
 | e::l,x,h=>by
  rw[bp];split
  ·rename_i I
   simp only[Bool.and_eq_true,bq,decide_eq_true_eq] at I;refine Gk ?_;unfold bI at h|-
   rw[List.all_cons,Bool.and_eq_false_iff] at h;rcases h with h | h
   ·simp at h;omega
   ·exact h
  ·rfl
def DZ:List Nat:=[0,1,4,2,3,5,6]
def L8:Sl:=ah Tryz.types Tryz.f102 DZ []
theorem VG:aE Tryz.prog Tryz.f102 DZ L8 2=true:=by decide +kernel
theorem JJ(s:aa)(p:U)(ad:s.to.length=s.fr.length)(hn : 0<=s.nd):aA Tryz.prog 102 [.v (aa.d s),.v (U.d p)] (.bool (s.aO p).isSome):=by
 refine iA fun hw=>?_
 simp only[eL,iJ,aa.d,U.d,aa.cells,U.cells,D.ek,iH,IntKind.has,IntKind.max,IntKind.signed,IntKind.bits] at hw;have ab:s.nd<=9223372036854775807:=by simpa using hw.1.1.2
 have hl:p.ed.length<=maxLen:=hw.2.1.2.1.1;have W:IntKind.i64.wrap (s.nd-1)=s.nd-1:=lA ⟨by simp[IntKind.min,IntKind.signed,IntKind.bits];omega,by simp[IntKind.max,IntKind.signed,IntKind.bits];omega⟩;refine aQ Tryz.func102 VG ?_;unfold L8 ah DZ;simp only[go_sem];rw[W];refine aj (A8 _ _ _) rfl (.inl rfl) ?_;simp only[go_sem]
 have he:(bq p.st 0 (s.nd-1)&&decide (p.ed.length<=6))=!(!bq p.st 0 (s.nd-1) || decide ((6:Int)<(p.ed.length:Int))):=by
  rw[Bool.not_or,Bool.not_not,<-decide_not];congr 1;exact decide_eq_decide.2 (by omega)
 refine⟨fun h=>by simpa using h,bf (fun _=>qv _ _) rfl (fun h=>h) (.inl rfl) ?_⟩;simp only[go_sem];refine⟨(fun h=>by simp only[Bool.or_eq_false_iff,Bool.and_eq_true,Bool.not_eq_true',Bool.not_eq_false'] at h|-;exact h),fun h=>?_,fun h=>?_⟩
 ·unfold aa.aO
  rw[he];rw[Bool.or_eq_true,Bool.not_eq_true'] at h;rcases h with h | h
  ·rw[h];rfl
  ·rw[Gk h];simp
 ·rw[Bool.or_eq_false_iff,Bool.not_eq_false'] at h
  have hE:s.aO p=bp s.fr s.to p.st p.ed:=by unfold aa.aO;rw[he,h.1];rfl
  rw[hE];have hm:=fun i hi=>db h.2 (i:=i) hi
  refine au [] (fun(q:Nat×Int)=>[(5,.int .i64 q.2),(6,.int .i64 q.1)]) (fun q=>q.1<=p.ed.length/\bp s.fr s.to q.2 (p.ed.drop q.1)=bp s.fr s.to p.st p.ed) (fun q=>p.ed.length-q.1) (0,p.st) (by simp only[go_sem];rfl) ⟨Nat.zero_le _,rfl⟩ rfl ?_;rintro⟨i,y⟩ ⟨hi,I⟩;simp only at hi I;simp only[go_sem];refine⟨fun S=>?_,fun S=>?_⟩
  ·have Z:=hm i S
   rw[vI S] at I;have Y:bq (p.ed.getD i 0) 0 ((s.fr.length:Int)-1)=true:=by unfold bq;simp only[Bool.and_eq_true,decide_eq_true_eq];omega
   rw[Y,Bool.true_and] at I;refine⟨S,Z,fun V=>?_,fun V=>⟨S,by omega,(i+1,s.to.getD (p.ed.getD i 0).toNat 0),⟨S,?_⟩,by show p.ed.length-(i+1)<p.ed.length-i;omega,by rw[aw S hl]⟩⟩
   ·rw[bne_iff_ne] at V
    rw[if_neg (by rw[beq_iff_eq];exact V)] at I;rw[<-I];rfl
   ·rw[bne_eq_false_iff_eq] at V
    rw[if_pos (by rw[beq_iff_eq];exact V)] at I;exact I
  ·rw[show i=p.ed.length by omega,List.drop_length] at I
   rw[<-I];rfl
theorem ry{fr to:List Int}:∀{l:List Int}{x y:Int},bp fr to x l=some y->y=(if l=[] then x else to.getD (l.getD (l.length-1) 0).toNat 0)/\∀i,i<l.length->0<=l.getD i 0/\l.getD i 0<fr.length
 | [],x,y,h=>by rw[bp] at h;injection h with h;subst h;exact⟨rfl,fun i hi=>by simp at hi⟩
 | e::l,x,y,h=>by
  rw[bp] at h;split at h
  ·rename_i I
   simp only[Bool.and_eq_true,bq,decide_eq_true_eq] at I;obtain⟨h1,S⟩:=ry h;refine⟨?_,fun i hi=>?_⟩
   ·rw[if_neg (by simp),h1]
    cases l with
    | nil=>rfl
    | cons f l=>rw[if_neg (by simp)];rfl
   ·cases i with
    | zero=>exact⟨I.1.1,by show e<_;omega⟩
    | succ i=>exact S i (by simpa using hi)
  ·cases h
def DV:List Nat:=[0,1,4,2,3]
def L4:Sl:=ah Tryz.types Tryz.f103 DV []
theorem VC:aE Tryz.prog Tryz.f103 DV L4 2=true:=by decide +kernel
theorem qw(s:aa)(p:U)(y:Int)(ab:s.to.length=s.fr.length)(h:s.aO p=some y):aA Tryz.prog 103 [.v (aa.d s),.v (U.d p)] (.int .i64 y):=by
 obtain⟨_,h6,Y⟩:=pE h;obtain⟨V,Z⟩:=ry Y;refine aQ Tryz.func103 VC ?_;unfold L4 ah DV;simp only[go_sem];refine⟨fun I=>?_,fun I=>?_⟩
 ·rw[V,if_pos (List.length_eq_zero_iff.1 (by simpa using I))]
 ·have I:p.ed.length≠0:=by simpa using I
  have S:¬p.ed=[]:=fun e=>I (by rw[e];rfl)
  rw[if_neg S] at V;rw[No (by simp only[maxLen];omega)];have W:((p.ed.length:Int)-1).toNat=p.ed.length-1:=by omega
  have:=Z (p.ed.length-1) (by omega);rw[W];exact⟨by omega,by omega,by rw[V]⟩
def D7:List Nat:=[0,1,2,6,7]
def Mf:Sl:=ah Tryz.types Tryz.f110 D7 []
theorem VO:aE Tryz.prog Tryz.f110 D7 Mf 3=true:=by decide +kernel
theorem Bf(mp:List (List Int))(l:List Int)(r:Int)(S:kM mp r l):aA Tryz.prog 110 [.v (aC mp),.v (ints l),.v (.int .i64 r)] (.int .i64 (ck mp r l)):=by
 refine iA fun hw=>?_
 simp only[eL,iJ] at hw;have hl:l.length<=maxLen:=hw.2.1.1;refine aQ Tryz.func110 VO ?_;unfold Mf ah D7;simp only[go_sem];refine au [] (fun(p:Nat×Int)=>[(2,.int .i64 p.2),(4,.int .i64 p.1)]) (fun p=>p.1<=l.length/\ck mp p.2 (l.drop p.1)=ck mp r l/\kM mp p.2 (l.drop p.1)) (fun p=>l.length-p.1) (0,r) (by simp only[go_sem];rfl) ⟨Nat.zero_le _,rfl,S⟩ rfl ?_;rintro⟨i,y⟩ ⟨hi,I,V⟩;simp only[go_sem];simp only at hi I V;refine⟨fun h=>?_,fun h=>?_⟩
 ·obtain⟨e1,e2⟩:=Hf (mp:=mp) (r:=y) h
  obtain⟨W,Y,Z⟩:=e2 V;exact⟨h,W,Y,(i+1,(mp.getD (l.getD i 0).toNat []).getD y.toNat 0),⟨h,e1▸I,Z⟩,by show l.length-(i+1)<l.length-i;omega,by rw[aw h hl]⟩
 ·rw[show i=l.length by omega,List.drop_length] at I
  rw[<-I];rfl
end Go.D3
namespace Go.D3
open Go
theorem lU{fr to:List Int}:∀{l m:List Int}{x:Int},bp fr to x (l++m)=(bp fr to x l).bind fun y=>bp fr to y m
 | [],m,x=>rfl
 | e::l,m,x=>by
  rw[List.cons_append,bp,bp];split
  ·exact lU
  ·rfl
theorem Qe{fr to:List Int}{x:Int}{e:Nat}(he:e<fr.length)(I:fr.getD e 0=x):bp fr to x [(e:Int)]=some (to.getD e 0):=by
 rw[bp,if_pos]
 ·rfl
 ·simp only[bq,Bool.and_eq_true,decide_eq_true_eq,beq_iff_eq,Int.toNat_natCast]
  exact⟨by omega,I⟩
theorem bN{s:aa}{p:U}{y:Int}:s.aO p=some y↔(0<=p.st/\p.st<=s.nd-1)/\p.ed.length<=6/\bp s.fr s.to p.st p.ed=some y:=by
 unfold aa.aO;rw[<-and_assoc];constructor
 ·intro h
  split at h
  ·rename_i I
   simp only[bq,Bool.and_eq_true,decide_eq_true_eq] at I;exact⟨I,h⟩
  ·cases h
 ·rintro⟨h1,S⟩
  rw[if_pos (by simp only[bq,Bool.and_eq_true,decide_eq_true_eq];exact h1),S]
theorem rn{s:aa}{x:Int}(I : 0<=x)(h1:x<s.nd):s.aO ⟨x,[]⟩=some x:=bN.2 ⟨⟨I,by show x<=_;omega⟩,Nat.zero_le _,rfl⟩
theorem pB{s:aa}{p:U}{e:Nat}(h:s.aO p=some (s.fr.getD e 0))(he:e<s.fr.length)(I:p.ed.length<6):s.aO ⟨p.st,p.ed++[(e:Int)]⟩=some (s.to.getD e 0):=by
 rw[bN] at h|-
 refine⟨h.1,by rw[List.length_append];exact I,?_⟩;show bp s.fr s.to p.st (p.ed++_)=_;rw[lU,h.2.2];exact Qe he rfl
theorem PQ{s:aa}{x:Int}{l:List Int}{e:Int}{y:Int}(h:s.aO ⟨x,l++[e]⟩=some y):∃k:Nat,e=k/\k<s.fr.length/\s.aO ⟨x,l⟩=some (s.fr.getD k 0):=by
 rw[bN] at h;obtain⟨h1,S,I⟩:=h;dsimp only at h1 S I;rw[lU] at I;cases hf:bp s.fr s.to x l with
 | none=>rw[hf] at I;cases I
 | some z =>
  rw[hf,Option.bind_some,bp] at I;split at I
  ·rename_i V
   simp only[bq,Bool.and_eq_true,decide_eq_true_eq,beq_iff_eq] at V;refine⟨e.toNat,by omega,by omega,bN.2 ⟨h1,?_,?_⟩⟩
   ·show l.length<=6
    rw[List.length_append,List.length_singleton] at S;omega
   ·show bp s.fr s.to x l=_
    rw[hf,V.2]
  ·cases I
structure fO(s:aa)(out:List U)(i:Nat):Prop where
 v:∀p∈out,∃y,s.aO p=some y
 z:∀x:Nat,(x:Int)<s.nd->(⟨x,[]⟩:U)∈out
 c:∀j,j<i->∀e:Nat,e<s.fr.length->(out.getD j U.zero).ed.length<6->s.aO (out.getD j U.zero)=some (s.fr.getD e 0)->(⟨(out.getD j U.zero).st,(out.getD j U.zero).ed++[(e:Int)]⟩:U)∈out
structure dQ(s:aa)(out:List U):Prop where
 v:∀p∈out,∃y,s.aO p=some y
 a:∀p y,s.aO p=some y->p∈out
theorem fO.done{s:aa}{out:List U}{i:Nat}(h:fO s out i)(hi:out.length<=i):dQ s out:=by
 refine⟨h.v,?_⟩
 have key:∀(n:Nat)(x:Int)(l:List Int),l.length=n->∀y,s.aO ⟨x,l⟩=some y->(⟨x,l⟩:U)∈out:=by
  intro n;induction n with
  | zero =>
   intro x l V y S;obtain rfl:=List.length_eq_zero_iff.1 V;obtain⟨h1,_,_⟩:=bN.1 S;dsimp only at h1;have:=h.z x.toNat (by omega)
   rwa [show((x.toNat:Nat):Int)=x by omega] at this
  | succ n ih =>
   intro x l V y S;have Y:l≠[]:=fun e=>by rw[e] at V;cases V
   rw[<-List.dropLast_concat_getLast Y] at S|-
   obtain⟨k,hk,W,hp⟩:=PQ S;have hm:=ih x l.dropLast (by rw[List.length_dropLast];omega) _ hp;obtain⟨j,hj,hg⟩:=List.getElem_of_mem hm;have I:out.getD j U.zero=⟨x,l.dropLast⟩:=by rw[aM hj,hg]
   have Z:=(bN.1 S).2.1;rw[hk]
   have:=h.c j (by omega) k W (by
    rw[I];simp only[List.length_append,List.length_dropLast,List.length_singleton] at Z|-
    omega) (by rw[I];exact hp)
   rwa [I] at this
 exact fun p y S=>key _ p.st p.ed rfl y S
def nn(l:List U)(x:Int)(ed:List Int):Int:=if l.findIdx (fun p=>p.st == x&&p.ed == ed)<l.length then((l.findIdx (fun p=>p.st == x&&p.ed == ed):Nat):Int) else -1
theorem uk{l:List U}{x:Int}{ed:List Int}(h:(⟨x,ed⟩:U)∈l):∃j:Nat,nn l x ed=j/\j<l.length/\l.getD j U.zero=⟨x,ed⟩:=by
 have I:l.findIdx (fun p=>p.st == x&&p.ed == ed)<l.length:=List.findIdx_lt_length_of_exists ⟨_,h,by simp⟩;refine⟨_,by unfold nn;rw[if_pos I],I,?_⟩;have:=List.findIdx_getElem (w:=I);rw[<-aM (d:=U.zero) I] at this;generalize l.getD (l.findIdx (fun p=>p.st == x&&p.ed == ed)) U.zero=q at this;simp only[Bool.and_eq_true,beq_iff_eq] at this;cases q;dsimp only at this;rw[this.1,this.2]
structure uU(s:aa)(list:List U)(cl:List Int):Prop where
 len:cl.length=list.length
 ge:∀i,i<list.length->0<=cl.getD i 0/\cl.getD i 0<list.length
 f:∀i (m:Nat),i<list.length->(∀q,q<i->cl.getD q 0<m)->cl.getD i 0<=m
 same:∀i j,i<list.length->j<list.length->cl.getD i 0=cl.getD j 0->(list.getD i U.zero).st=(list.getD j U.zero).st/\s.aO (list.getD i U.zero)=s.aO (list.getD j U.zero)
theorem Pn{s:aa}{list:List U}{P:List (List Int)}{cl:List Int}(h:nI (bV (bk list.length) P) cl)
  (hP:∀p∈P,∃a b:Nat,a<list.length/\b<list.length/\p.getD 0 0=a/\p.getD 1 0=b/\(list.getD a U.zero).st=(list.getD b U.zero).st/\s.aO (list.getD a U.zero)=s.aO (list.getD b U.zero)):uU s list cl:=by
 have I:(bV (bk list.length) P).length=list.length:=by rw[pR,dq]
 refine⟨by rw[h.len,I],fun i hi=>by have:=h.ge i (by omega);rwa [I] at this,fun i m hi=>h.f i m (by omega),fun i j hi hj e=>?_⟩
 have:=h.same (fun i=>((list.getD i U.zero).st,s.aO (list.getD i U.zero))) (fun p hp=>by
  obtain⟨a,b,h1,S,V,W,Y,Z⟩:=hP p hp
  exact⟨a,b,h1,S,V,W,by rw[Y,Z]⟩) hi hj e
 exact⟨congrArg Prod.fst this,congrArg Prod.snd this⟩
structure jC(s:aa)(list:List U)(cl:List Int)(i:Nat)(least:List U):Prop where
 lt:∀j,j<i->cl.getD j 0<least.length
 ex:∀k,k<least.length->∃j,j<i/\j<list.length/\cl.getD j 0=k/\least.getD k U.zero=list.getD j U.zero
 iD:∀k,k<least.length->(least.getD k U.zero).ed.length<6
theorem jC.zero{s:aa}{list:List U}{cl:List Int}:jC s list cl 0 []:=⟨fun _ I=>absurd I (Nat.not_lt_zero _),fun _ hk=>absurd hk (Nat.not_lt_zero _),fun _ hk=>absurd hk (Nat.not_lt_zero _)⟩
theorem jC.old{s:aa}{list:List U}{cl:List Int}{i:Nat}{least:List U}(S:uU s list cl)(h:jC s list cl i least)(hi:i<list.length)(W:cl.getD i 0≠least.length):jC s list cl (i+1) least:=by
 refine⟨fun j V=>?_,fun k hk=>?_,h.iD⟩
 ·by_cases hji:j<i
  ·exact h.lt j hji
  ·rw[show j=i by omega]
   have:=S.f i least.length hi h.lt;omega
 ·obtain⟨j,h1,I⟩:=h.ex k hk
  exact⟨j,by omega,I⟩
theorem jC.new{s:aa}{list:List U}{cl:List Int}{i:Nat}{least:List U}(h:jC s list cl i least)(hi:i<list.length)(he:cl.getD i 0=least.length)(Z:(list.getD i U.zero).ed.length<6):jC s list cl (i+1) (least++[list.getD i U.zero]):=by
 have S:∀{k},k<least.length->(least++[list.getD i U.zero]).getD k U.zero=least.getD k U.zero:=fun hk=>by rw[ee (by omega),if_neg (by omega)]
 have I:(least++[list.getD i U.zero]).getD least.length U.zero=list.getD i U.zero:=by rw[ee (Nat.le_refl _),if_pos rfl]
 refine⟨fun j hj=>?_,fun k hk=>?_,fun k hk=>?_⟩
 ·rw[List.length_append,List.length_singleton]
  by_cases hji:j<i
  ·have:=h.lt j hji;omega
  ·rw[show j=i by omega];omega
 ·rw[List.length_append,List.length_singleton] at hk
  by_cases hkl:k<least.length
  ·obtain⟨j,h1,V,W,Y⟩:=h.ex k hkl
   exact⟨j,by omega,V,W,by rw[S hkl,Y]⟩
  ·obtain rfl:k=least.length:=by omega
   exact⟨i,by omega,hi,he,I⟩
 ·rw[List.length_append,List.length_singleton] at hk
  by_cases hkl:k<least.length
  ·rw[S hkl];exact h.iD k hkl
  ·obtain rfl:k=least.length:=by omega
   rw[I];exact Z
theorem jC.at'{s:aa}{list:List U}{cl:List Int}{least:List U}(hA:dQ s list)(V:uU s list cl)(h:jC s list cl list.length least){x:Int}{ed:List Int}{y:Int}(Z:s.aO ⟨x,ed⟩=some y) :
  ∃j k:Nat,nn list x ed=j/\j<cl.length/\cl.getD j 0=k/\k<least.length/\(least.getD k U.zero).st=x/\s.aO (least.getD k U.zero)=some y/\(least.getD k U.zero).ed.length<6:=by
 obtain⟨j,h1,I,W⟩:=uk (hA.a _ _ Z);have h4:=(V.ge j I).1;have h5:=h.lt j I;obtain⟨k,hk⟩:∃k:Nat,cl.getD j 0=k:=⟨(cl.getD j 0).toNat,by omega⟩;obtain⟨j',_,h6,h7,Y⟩:=h.ex k (by omega);obtain⟨h9,S⟩:=V.same j' j h6 I (by rw[h7,hk]);refine⟨j,k,h1,by rw[V.len];exact I,hk,by omega,?_,?_,h.iD k (by omega)⟩
 ·rw[Y,h9,W]
 ·rw[Y,S,W,Z]
end Go.D3
namespace Go.D3
open Go
def jm(i:Nat):List U:=(List.range i).map fun x:Nat=>⟨x,[]⟩
theorem p8{i:Nat}:(jm i).length=i:=by simp[jm]
theorem HO{i:Nat}:jm (i+1)=jm i++[⟨i,[]⟩]:=by unfold jm;rw[List.range_succ,List.map_append];rfl
theorem HP{s:aa}(S:iM s):fO s (jm s.nd.toNat) 0:=by
 have V:=S.n0;refine⟨fun p hp=>?_,fun x I=>?_,fun j W=>by omega⟩
 ·obtain⟨x,I,rfl⟩:=List.mem_map.1 hp
  rw[List.mem_range] at I;exact⟨x,rn (by omega) (by omega)⟩
 ·exact List.mem_map.2 ⟨x,List.mem_range.2 (by omega),rfl⟩
theorem fO.iD{s:aa}{o:List U}{i:Nat}(h:fO s o i)(S:¬(o.getD i U.zero).ed.length<6):fO s o (i+1):=by
 refine⟨h.v,h.z,fun j W e he I V=>?_⟩;by_cases hji:j<i
 ·exact h.c j hji e he I V
 ·rw[show j=i by omega] at I;exact absurd I S
theorem fO.add{s:aa}{o:List U}{i:Nat}(h:fO s o i)(hi:i<=o.length){q:U}{y:Int}(W:s.aO q=some y):fO s (o++[q]) i:=by
 refine⟨fun p hp=>?_,fun x Y=>List.mem_append_left _ (h.z x Y),fun j S e he=>?_⟩
 ·rcases List.mem_append.1 hp with hp | hp
  ·exact h.v p hp
  ·rw[List.mem_singleton] at hp;subst hp;exact⟨y,W⟩
 ·rw[ee (by omega),if_neg (by omega)]
  exact fun V I=>List.mem_append_left _ (h.c j S e he V I)
theorem fO.next{s:aa}{o:List U}{i:Nat}(h:fO s o i)(S:∀e:Nat,e<s.fr.length->s.aO (o.getD i U.zero)=some (s.fr.getD e 0)->(⟨(o.getD i U.zero).st,(o.getD i U.zero).ed++[(e:Int)]⟩:U)∈o):fO s o (i+1):=by
 refine⟨h.v,h.z,fun j W e he V I=>?_⟩;by_cases hji:j<i
 ·exact h.c j hji e he V I
 ·obtain rfl:j=i:=by omega
  exact S e he I
theorem fO.at'{s:aa}{o:List U}{i j:Nat}(h:fO s o i)(I:j<o.length):∃y,s.aO (o.getD j U.zero)=some y:=by
 rw[aM I];exact h.v _ (List.getElem_mem _)
theorem dQ.at'{s:aa}{o:List U}{j:Nat}(h:dQ s o)(I:j<o.length):∃y,s.aO (o.getD j U.zero)=some y:=by
 rw[aM I];exact h.v _ (List.getElem_mem _)
theorem dQ.perm{s:aa}{o l:List U}(h:dQ s l)(hp:o.Perm l):dQ s o:=⟨fun p q=>h.v p (hp.mem_iff.1 q),fun p y I=>hp.mem_iff.2 (h.a p y I)⟩
def o9(o:List U)(k:Nat):List U:=(o.set k (o.getD (k-1) U.zero)).set (k-1) (o.getD k U.zero)
theorem aaP{o:List U}{k:Nat}(hk:k<o.length):(o9 o k).Perm o:=by
 unfold o9;rw[aM hk,aM (show k-1<o.length by omega)];exact List.set_set_perm hk (by omega)
def xO(n:Nat)(P:List (List Int)):Prop:=∀p∈P,∃a b:Nat,p=[(a:Int),(b:Int)]/\a<n/\b<n
theorem xO.get{n:Nat}{P:List (List Int)}(h:xO n P){k:Nat}(hk:k<P.length):∃a b:Nat,P.getD k []=[(a:Int),(b:Int)]/\a<n/\b<n:=by
 rw[aM hk];exact h _ (List.getElem_mem _)
def nK(s:aa)(list:List U)(P:List (List Int)):Prop:=∀p∈P,∃a b:Nat,p=[(a:Int),(b:Int)]/\a<list.length/\b<list.length/\(list.getD a U.zero).st=(list.getD b U.zero).st/\s.aO (list.getD a U.zero)=s.aO (list.getD b U.zero)
theorem nK.pr{s:aa}{list:List U}{P:List (List Int)}(h:nK s list P):xO list.length P:=fun p hp=>by
 obtain⟨a,b,h1,I,S,_⟩:=h p hp;exact⟨a,b,h1,I,S⟩
theorem nK.add{s:aa}{list:List U}{P:List (List Int)}(h:nK s list P){a b:Nat}(S:a<list.length)(V:b<list.length)(h1:(list.getD a U.zero).st=(list.getD b U.zero).st)(I:s.aO (list.getD a U.zero)=s.aO (list.getD b U.zero)) :
  nK s list (P++[[(a:Int),(b:Int)]]):=fun p hp=>by
 rcases List.mem_append.1 hp with hp | hp
 ·exact h p hp
 ·rw[List.mem_singleton] at hp;subst hp;exact⟨a,b,rfl,S,V,h1,I⟩
theorem nK.cls{s:aa}{list:List U}{P:List (List Int)}{cl:List Int}(h:nK s list P)(W:nI (bV (bk list.length) P) cl):uU s list cl:=Pn W fun p hp=>by
 obtain⟨a,b,rfl,h1,I,S,V⟩:=h p hp;exact⟨a,b,h1,I,rfl,rfl,S,V⟩
theorem rm{s:aa}{p:U}{y:Int}(h:s.aO p=some y){i:Nat}(hi:i<=p.ed.length):bp s.fr s.to p.st (p.ed.take i)=some (if i=0 then p.st else s.to.getD (p.ed.getD (i-1) 0).toNat 0):=by
 have S:=(bN.1 h).2.2;rw[<-List.take_append_drop i p.ed,lU] at S;cases hf:bp s.fr s.to p.st (p.ed.take i) with
 | none=>rw[hf] at S;cases S
 | some m =>
  have:=(ry hf).1;rw[this];by_cases I:i=0
  ·subst I;rfl
  ·have V:¬p.ed.take i=[]:=fun e=>by
    have:=congrArg List.length e;rw[List.length_take,List.length_nil] at this;omega
   rw[if_neg V,if_neg I];congr 3;rw[List.length_take,Nat.min_eq_left hi,List.getD_eq_getElem?_getD,List.getElem?_take,if_pos (by omega),List.getD_eq_getElem?_getD]
theorem vz{s:aa}{w p q:U}{y z m:Int}{i:Nat}(hw:s.aO w=some y)(hp:s.aO p=some z)(V:s.aO q=some z)(aK:p.st=q.st)(hi:i+p.ed.length<=w.ed.length)
  (hm:bp s.fr s.to w.st (w.ed.take i)=some m) (I:m=p.st) (W:(w.ed.take (i+p.ed.length)).drop i=p.ed) (Z:w.ed.length-p.ed.length+q.ed.length<=6) :
  s.aO ⟨w.st,w.ed.take i++q.ed++w.ed.drop (i+p.ed.length)⟩=some y:=by
 obtain⟨h1,Y,S⟩:=bN.1 hw;refine bN.2 ⟨h1,?_,?_⟩
 ·show(w.ed.take i++q.ed++w.ed.drop _).length<=6
  simp only[List.length_append,List.length_take,List.length_drop];omega
 ·show bp s.fr s.to w.st (w.ed.take i++q.ed++w.ed.drop _)=_
  have e:w.ed=w.ed.take i++p.ed++w.ed.drop (i+p.ed.length):=by
   conv=>lhs;rw[<-List.take_append_drop (i+p.ed.length) w.ed,<-List.take_append_drop i (w.ed.take (i+p.ed.length)),W,List.take_take,Nat.min_eq_left (by omega)]
  rw[e,List.append_assoc,lU,hm,Option.bind_some,lU,I,(bN.1 hp).2.2,Option.bind_some] at S;rw[List.append_assoc,lU,hm,Option.bind_some,lU,I,aK,(bN.1 V).2.2,Option.bind_some,S]
end Go.D3
