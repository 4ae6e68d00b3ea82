/- CONTRACTS: maps of schemas: types, sizes, copies, comparisons. -/
import Derived.Test.YtpnchponfnbmiaaGreatDoorGAA
namespace Go.D3
open Go Proofs
set_option maxHeartbeats 4000000
set_option maxRecDepth 100000
structure bR where
 src:aa
 df:aa
 eh:List (Int)
 ez:List (U)
def bR.cells(x:bR):List D:=[.int .i64 x.src.nd,ints x.src.fr,ints x.src.to,ae U.d U.zero x.src.lf,ae U.d U.zero x.src.rt,.int .i64 x.df.nd,ints x.df.fr,ints x.df.to,ae U.d U.zero x.df.lf,ae U.d U.zero x.df.rt,ints x.eh,ae U.d U.zero x.ez]
def bR.d(x:bR):D:=.agg x.cells
def bR.zero:bR:=⟨aa.zero,aa.zero,[],[]⟩
def bR.cost(x:bR):Nat:=aa.cost x.src+aa.cost x.df+x.eh.length+dB U.cost x.ez
theorem Z9:D.slice (.agg [.int .i64 0,ints [],ints [],ae U.d U.zero [],ae U.d U.zero [],.int .i64 0,ints [],ints [],ae U.d U.zero [],ae U.d U.zero [],ints [],ae U.d U.zero []]) []=ae bR.d bR.zero []:=rfl
theorem Xi{n:Nat}:D.slice (.agg [.int .i64 0,ints [],ints [],ae U.d U.zero [],ae U.d U.zero [],.int .i64 0,ints [],ints [],ae U.d U.zero [],ae U.d U.zero [],ints [],ae U.d U.zero []]) (List.replicate n (.agg [.int .i64 0,ints [],ints [],ae U.d U.zero [],ae U.d U.zero [],.int .i64 0,ints [],ints [],ae U.d U.zero [],ae U.d U.zero [],ints [],ae U.d U.zero []]))=ae bR.d bR.zero (List.replicate n bR.zero):=by unfold ae;rw[List.map_replicate];rfl
theorem ZI{l:List bR}{i:Nat}{srcnd:Int}{srcfr:List (Int)}{srcto:List (Int)}{srclf:List (U)}{srcrt:List (U)}{tgtnd:Int}{tgtfr:List (Int)}{tgtto:List (Int)}{tgtlf:List (U)}{tgtrt:List (U)}{eh:List (Int)}{ez:List (U)}:dw (.o (ae bR.d bR.zero l)) [(i,0)] 0 [.int .i64 srcnd,ints srcfr,ints srcto,ae U.d U.zero srclf,ae U.d U.zero srcrt,.int .i64 tgtnd,ints tgtfr,ints tgtto,ae U.d U.zero tgtlf,ae U.d U.zero tgtrt,ints eh,ae U.d U.zero ez]=.o (ae bR.d bR.zero (l.set i ⟨⟨srcnd,srcfr,srcto,srclf,srcrt⟩,⟨tgtnd,tgtfr,tgtto,tgtlf,tgtrt⟩,eh,ez⟩)):=mT (n:=12) (fun _=>⟨_,rfl,rfl⟩) rfl
attribute [go_sem] bR.cells.eq_1 bR.d.eq_1 Z9 Xi
theorem NG{l:List bR}{srcnd:Int}{srcfr:List (Int)}{srcto:List (Int)}{srclf:List (U)}{srcrt:List (U)}{tgtnd:Int}{tgtfr:List (Int)}{tgtto:List (Int)}{tgtlf:List (U)}{tgtrt:List (U)}{eh:List (Int)}{ez:List (U)}:(ae bR.d bR.zero l).dj [.agg [.int .i64 srcnd,ints srcfr,ints srcto,ae U.d U.zero srclf,ae U.d U.zero srcrt,.int .i64 tgtnd,ints tgtfr,ints tgtto,ae U.d U.zero tgtlf,ae U.d U.zero tgtrt,ints eh,ae U.d U.zero ez]]=ae bR.d bR.zero (l++[⟨⟨srcnd,srcfr,srcto,srclf,srcrt⟩,⟨tgtnd,tgtfr,tgtto,tgtlf,tgtrt⟩,eh,ez⟩]):=kD (f:=bR.d) (x:=⟨⟨srcnd,srcfr,srcto,srclf,srcrt⟩,⟨tgtnd,tgtfr,tgtto,tgtlf,tgtrt⟩,eh,ez⟩)
attribute [go_sem high] ZI NG
structure cU where
 src:au
 df:au
 iZ:List (Int)
 iM:List (Int)
def cU.cells(x:cU):List D:=[.int .i64 x.src.ob,ints x.src.fr,ints x.src.to,ints x.src.aU,aF x.src.co,.int .i64 x.df.ob,ints x.df.fr,ints x.df.to,ints x.df.aU,aF x.df.co,ints x.iZ,ints x.iM]
def cU.d(x:cU):D:=.agg x.cells
def cU.zero:cU:=⟨au.zero,au.zero,[],[]⟩
def cU.cost(x:cU):Nat:=au.cost x.src+au.cost x.df+x.iZ.length+x.iM.length
theorem Z4:D.slice (.agg [.int .i64 0,ints [],ints [],ints [],aF [],.int .i64 0,ints [],ints [],ints [],aF [],ints [],ints []]) []=ae cU.d cU.zero []:=rfl
theorem Xd{n:Nat}:D.slice (.agg [.int .i64 0,ints [],ints [],ints [],aF [],.int .i64 0,ints [],ints [],ints [],aF [],ints [],ints []]) (List.replicate n (.agg [.int .i64 0,ints [],ints [],ints [],aF [],.int .i64 0,ints [],ints [],ints [],aF [],ints [],ints []]))=ae cU.d cU.zero (List.replicate n cU.zero):=by unfold ae;rw[List.map_replicate];rfl
theorem ZD{l:List cU}{i:Nat}{srcob:Int}{srcfr:List (Int)}{srcto:List (Int)}{srcidn:List (Int)}{srcco:List (List (Int))}{tgtob:Int}{tgtfr:List (Int)}{tgtto:List (Int)}{tgtidn:List (Int)}{tgtco:List (List (Int))}{iZ:List (Int)}{iM:List (Int)}:dw (.o (ae cU.d cU.zero l)) [(i,0)] 0 [.int .i64 srcob,ints srcfr,ints srcto,ints srcidn,aF srcco,.int .i64 tgtob,ints tgtfr,ints tgtto,ints tgtidn,aF tgtco,ints iZ,ints iM]=.o (ae cU.d cU.zero (l.set i ⟨⟨srcob,srcfr,srcto,srcidn,srcco⟩,⟨tgtob,tgtfr,tgtto,tgtidn,tgtco⟩,iZ,iM⟩)):=mT (n:=12) (fun _=>⟨_,rfl,rfl⟩) rfl
attribute [go_sem] cU.cells.eq_1 cU.d.eq_1 Z4 Xd
theorem NA{l:List cU}{srcob:Int}{srcfr:List (Int)}{srcto:List (Int)}{srcidn:List (Int)}{srcco:List (List (Int))}{tgtob:Int}{tgtfr:List (Int)}{tgtto:List (Int)}{tgtidn:List (Int)}{tgtco:List (List (Int))}{iZ:List (Int)}{iM:List (Int)}:(ae cU.d cU.zero l).dj [.agg [.int .i64 srcob,ints srcfr,ints srcto,ints srcidn,aF srcco,.int .i64 tgtob,ints tgtfr,ints tgtto,ints tgtidn,aF tgtco,ints iZ,ints iM]]=ae cU.d cU.zero (l++[⟨⟨srcob,srcfr,srcto,srcidn,srcco⟩,⟨tgtob,tgtfr,tgtto,tgtidn,tgtco⟩,iZ,iM⟩]):=kD (f:=cU.d) (x:=⟨⟨srcob,srcfr,srcto,srcidn,srcco⟩,⟨tgtob,tgtfr,tgtto,tgtidn,tgtco⟩,iZ,iM⟩)
attribute [go_sem high] ZD NA
def CO:List Nat:=[0,1,4,2,3]
def Ld:Sl:=ah Tryz.types Tryz.f33 CO []
theorem UG:aC Tryz.prog Tryz.f33 CO Ld 2=true:=by decide +kernel
theorem Yo(a:au):aw Tryz.prog 33 [.v (au.d a),.v (au.d a)] (.bool true):=by
 refine aK Tryz.func33 UG ?_;unfold Ld ah CO;simp only[go_sem];refine⟨fun h=>by simp at h,fun _=>?_⟩;refine an (tH a.fr) rfl (.inl rfl) ?_;simp only[go_sem];refine an (tH a.to) rfl (.inl rfl) ?_;simp only[go_sem];refine an (tH a.aU) rfl (.inl rfl) ?_;simp only[go_sem];refine an (JI a.co) rfl (.inl rfl) ?_;simp only[go_sem]
 all_goals trivial
end Go.D3
