/- 'FnExactThenSchemaMaps': whatever the two maps of schemas, the program's ThenSchemaMaps answers as the reference does, leaves its arguments as they were, and shares no memory. The card: the package-level variables that are listed (the type 'error', tables of numbers) hold at the start what the program's text lays. No further conditions. -/
import Derived.Test.YtpnchponfnbmiaaGreatDoorHG
import Derived.Test.YtpnchponfnbmiaaGreatDoorRows
import Derived.Test.YtpnchponfnbmiaaGreatDoorGAS
import Derived.LaidHandle
import Derived.Stop.Joined
import Derived.Stop.LaidErr
import Derived.Shelf.Vars
import Derived.LaidMore
import Derived.Lib.LaidTab
import Derived.Lib.ItoaNum
import Derived.Deep.DeepLaidRun
import Derived.Test.YtpnchponfnbmiaaGreatDoorGAK
import Derived.Test.YtpnchponfnbmiaaGreatDoorCards
import Derived.Test.YtpnchponfnbmiaaGreatDoorTie
import Derived.JoinedCond
import Derived.Deep.DeepHandedRow
import Derived.Lay
import Derived.KernelRfl
import Derived.Test.YtpnchponfnbmiaaGreatDoorGBR
namespace Go.D3
open Go Go.ChangeShapes Go.RowKit Go.Proofs.YtpnchponfnbmiaaGreatDoor
theorem VP{P:Program}{w:World}{n:String}{g:Nat}{cs:Array Value}(hg:P.globalNamed n=some g)(h:w.var? P n=some cs):∃t fz,w.heap[g]?=some (.cells cs t fz):=by
 unfold World.var? at h;rw[hg] at h;simp only[Option.bind_some] at h;split at h
 ·rename_i c t f hc
  injection h with h
  subst h;exact⟨t,f,hc⟩
 ·cases h
theorem L6:Go.Proofs.Tryz.prog.globalNamed "errors.errorType"=some 0:=by kernel_rfl
theorem L8:(Go.Proofs.Tryz.prog.cutTypes.find? (·.1 == "internal/reflectlite.rtype")).map (·.2)=some 264:=by kernel_rfl
theorem L7:((List.range Go.Proofs.Tryz.prog.types.size).filter fun t=>Go.Proofs.Tryz.prog.rowNamed t [101,114,114,111,114])=[177]:=by kernel_rfl
abbrev vA:List (String×DataW Unit):=Rows.fnExactThenSchemaMapsRow.laid
theorem wH{W:World}(h:laidMetH Go.Proofs.Tryz.prog vA W):W.cell? ⟨0,0,none⟩=some (.iface 264 (.agg #[.pointer (some ⟨10,177,none⟩)]))/\∃t fz,W.heap[2]?=some (.cells (Lib.pow10Tab.map fun z=>Value.int .u64 z).toArray t fz)/\2<W.heap.size:=by
 have h':laidMet Go.Proofs.Tryz.prog [("math/bits.deBruijn32tab",Rows.laid_math_bits_deBruijn32tab),("math/bits.deBruijn64tab",Rows.laid_math_bits_deBruijn64tab),(Go.Proofs.Tryz.pU,Rows.laid_internal_strconv_uint64pow10)] W/\handlesMet Go.Proofs.Tryz.prog [("errors.errorType",Rows.laid_errors_errorType)] W:=h;constructor
 ·obtain⟨name,u,ty,e1,e2,e3,e4,e5⟩:=h'.2 _ (List.mem_singleton.2 rfl)
  have en:name=[101,114,114,111,114]:=(Option.some.inj e1).symm;subst en;obtain rfl:=Option.some.inj (L8.symm.trans e2);have hm:ty∈(List.range Go.Proofs.Tryz.prog.types.size).filter fun t=>Go.Proofs.Tryz.prog.rowNamed t [101,114,114,111,114]:=List.mem_filter.2 ⟨List.mem_range.2 e3,e4⟩
  rw[L7] at hm;obtain rfl:=List.mem_singleton.1 hm;have hh:typeHandle Go.Proofs.Tryz.prog 177=.pointer (some ⟨10,177,none⟩):=by kernel_rfl
  rw[hh] at e5;simpa using World.var?_cell L6 e5 0
 ·have gp:Go.Proofs.Tryz.prog.globalNamed Go.Proofs.Tryz.pU=some 2:=by kernel_rfl
  have cE:Lib.TabIs Go.Proofs.Tryz.prog W Go.Proofs.Tryz.pU .u64 Lib.pow10Tab:=Lib.tabIs_of_head (t:=302) (e:=279) (n:=20) gp (by kernel_rfl) (by kernel_rfl) (by kernel_rfl) (by kernel_rfl) (by kernel_rfl) h'.1.tail.tail;obtain⟨t,fz,hh⟩:=VP gp cE;exact⟨t,fz,hh,(Array.getElem?_eq_some_iff.1 hh).1⟩
theorem Mm{W:World}(h:laidMetH Go.Proofs.Tryz.prog vA W):eT W (ik W):=eT.Pe (wH h).1 (CJ (wH h).1).1 (wH h).2
theorem LV(os:Os)(args:Array Value):laidMetH Go.Proofs.Tryz.prog vA ((World.doorLaid Go.Proofs.Tryz.prog 98 os).forCall (fun _ _=>0) ⟨#[],args,[]⟩).memory :=
 laidMetH_of_parts (laidMet_of_run3 8 (by kernel_rfl) (by kernel_rfl) (by kernel_rfl)) (by kernel_rfl)
end Go.D3
namespace Go.D3
open Go
def ly:Ty:=.cons (.int .i64) (.cons (.sl (.int .i64)) .nil)
def zf:Ty:=.cons (.int .i64) (.cons (.sl (.int .i64)) (.cons (.sl (.int .i64)) (.cons (.sl ly) (.cons (.sl ly) .nil))))
def oG:Ty:=.cons zf (.cons zf (.cons (.sl (.int .i64)) (.cons (.sl ly) .nil)))
def sa:ly.V->Pth:=fun x=>⟨x.1,x.2.1⟩
def JQ:zf.V->Sch:=fun x=>⟨x.1,x.2.1,x.2.2.1,List.map sa x.2.2.2.1,List.map sa x.2.2.2.2.1⟩
def VF:oG.V->Smp:=fun x=>⟨JQ x.1,JQ x.2.1,x.2.2.1,List.map sa x.2.2.2.1⟩
theorem rO(l:List ly.V):(Ty.sl ly).d l=U Pth.d Pth.zero (l.map sa):=by
 show D.slice (ly.d ly.z) (l.map ly.d)=D.slice Pth.zero.d ((l.map sa).map Pth.d);rw[List.map_map];rfl
theorem U4{a b c d e f g l1 l2 l3 l4 l5 m1 m2 m3 m4 m5:D}(h1:l1=m1)(h2:l2=m2)(h3:l3=m3)(h4:l4=m4)(h5:l5=m5):D.agg [a,b,c,l1,l2,d,e,f,l3,l4,g,l5]=D.agg [a,b,c,m1,m2,d,e,f,m3,m4,g,m5]:=by
 subst h1 h2 h3 h4 h5;rfl
theorem Jv(x:oG.V):oG.d x=(VF x).d :=
 U4 (a:=.int .i64 x.1.1) (b:=ints x.1.2.1) (c:=ints x.1.2.2.1) (d:=.int .i64 x.2.1.1) (e:=ints x.2.1.2.1) (f:=ints x.2.1.2.2.1) (g:=ints x.2.2.1) (rO x.1.2.2.2.1) (rO x.1.2.2.2.2.1) (rO x.2.1.2.2.2.1) (rO x.2.1.2.2.2.2.1) (rO x.2.2.2.1)
end Go.D3
namespace Go.Proofs.YtpnchponfnbmiaaGreatDoor
open Go
namespace fnExactThenSchemaMaps
theorem own:ownKnob Go.Proofs.Tryz.prog.godebug=none:=by kernel_rfl
theorem laid:laidOutB Go.Proofs.Tryz.prog=true:=by kernel_rfl
theorem c6:(D3.Ty.cons D3.oG (.cons D3.oG .nil)).eK Go.Proofs.Tryz.prog Go.Proofs.Tryz.f4.params.toList=true:=by kernel_rfl
theorem res:Go.Proofs.Tryz.f4.resultTypes=#[4]:=by kernel_rfl
theorem tb:Go.Proofs.Tryz.prog.underlying 4=some .bool:=by kernel_rfl
theorem np:Go.Proofs.Tryz.f4.params.size=2:=by kernel_rfl
set_option maxRecDepth 100000 in
theorem lifted(hR:∀m n:D3.Smp,D3.al Go.Proofs.Tryz.prog 4 [.v (D3.Smp.d m),.v (D3.Smp.d n)] (.bool true))(os:Os)(started:os.Started)(H:Type)(enc:TypeId×Value->H)(F:Stop.Interp) :
  ReturnsInHanded {} Go.Proofs.Tryz.checked os 4 .any ((OpenSpec.ofChange Rows.fnExactThenSchemaMapsSpec).preRow enc Go.Proofs.Tryz.prog Go.Proofs.Tryz.f4 Rows.fnExactThenSchemaMapsRow.domain false Rows.fnExactThenSchemaMapsRow.laid) (((OpenSpec.ofChange Rows.fnExactThenSchemaMapsSpec).at F).post enc Go.Proofs.Tryz.prog Go.Proofs.Tryz.f4 false true false false):=by
 refine returnsInHanded_of_row (C:=Go.Proofs.Tryz.checked) (s:=OpenSpec.ofChange Rows.fnExactThenSchemaMapsSpec) own started (by kernel_rfl) Go.Proofs.Tryz.func4
  (ChangeSpec.witness_shaped (enc:=enc) (C:=Go.Proofs.Tryz.checked) (os:=os) (s:=Rows.fnExactThenSchemaMapsSpec) (conds:=Rows.fnExactThenSchemaMapsRow.domain) (X:=fun w _=>laidMetH Go.Proofs.Tryz.prog Rows.fnExactThenSchemaMapsRow.laid w) false (World.doorLaid Go.Proofs.Tryz.prog 98 os) #[.agg #[.int .i64 0,.slice none 0 0,.slice none 0 0,.slice none 0 0,.slice none 0 0,.int .i64 0,.slice none 0 0,.slice none 0 0,.slice none 0 0,.slice none 0 0,.slice none 0 0,.slice none 0 0],.agg #[.int .i64 0,.slice none 0 0,.slice none 0 0,.slice none 0 0,.slice none 0 0,.int .i64 0,.slice none 0 0,.slice none 0 0,.slice none 0 0,.slice none 0 0,.slice none 0 0,.slice none 0 0]] 8 rfl
    (World.shaped_of_RefB (by kernel_rfl) (by kernel_rfl)) (by kernel_rfl) (by kernel_rfl) (by kernel_rfl) (D3.LV os _)) ?_
 intro W base args ds gs before hval hW _ _ _ hL _ _;refine D3.M4 (ty:=.cons D3.oG (.cons D3.oG .nil)) (s:=Rows.fnExactThenSchemaMapsSpec) rfl res tb laid c6 (fun ds hd=>?_) (fun y=>?_) (D3.Mm hL) hval hW
 ·rw[np] at hd
  match ds,hd with
  | [d,e],_=>rfl
 ·exact Eq.mpr ((congrArg (fun d=>D3.al Go.Proofs.Tryz.prog 4 [.v d,.v (D3.oG.d y.2.1)] (.bool true)) (D3.Jv y.1)).trans (congrArg (fun e=>D3.al Go.Proofs.Tryz.prog 4 [.v (D3.VF y.1).d,.v e] (.bool true)) (D3.Jv y.2.1))) (hR _ _)
end fnExactThenSchemaMaps
end Go.Proofs.YtpnchponfnbmiaaGreatDoor
namespace Go.Proofs.YtpnchponfnbmiaaGreatDoor
open Go
namespace fnExactThenSchemaMaps
theorem Lz:joinedFacts Go.Proofs.Tryz.prog 4 Go.Proofs.Tryz.f4 (OpenSpec.ofChange Rows.fnExactThenSchemaMapsSpec).bare Rows.fnExactThenSchemaMapsRow=true:=by kernel_rfl
end fnExactThenSchemaMaps
end Go.Proofs.YtpnchponfnbmiaaGreatDoor
namespace Go.Proofs.YtpnchponfnbmiaaGreatDoor
open Go
namespace fnExactThenSchemaMaps
theorem said(hR:∀m n:D3.Smp,D3.al Go.Proofs.Tryz.prog 4 [.v (D3.Smp.d m),.v (D3.Smp.d n)] (.bool true)):Rows.FnExactThenSchemaMapsSaid :=
 OpenClaim.holds_of_cond 4 Go.Proofs.Tryz.f4 rfl rfl rfl rfl rfl rfl rfl ⟨rfl,rfl,rfl,rfl,rfl⟩ rfl rfl rfl rfl rfl (by kernel_rfl) Go.Proofs.Tryz.func4 Lz
  (of_decide_eq_true (by kernel_rfl)) (by unfold Func.isWrapper;first | (rw[if_pos (by decide +kernel)];kernel_rfl) | (rw[if_neg (by decide +kernel)];exact⟨rfl,rfl⟩))
  (fun os started H enc _ F=>by rw[OpenClaim.pre_eq_preRow];exact lifted hR os started H enc F)
theorem plain(f:FuncId)(fn:Func)(hf:Tryz.pinned.checked.prog.funcNamed Rows.fnExactThenSchemaMapsRow.func=some f)(hfn:Tryz.pinned.checked.prog.funcs[f]?=some fn) :
  true=Tryz.pinned.checked.prog.looks []/\∀(j:Nat) t,fn.params[j]?=some t->Tryz.pinned.checked.prog.wantsStandIn t=false:=by
 obtain rfl:f=4:=Option.some.inj ((show Go.Proofs.Tryz.prog.funcNamed Rows.fnExactThenSchemaMapsRow.func=some 4 by kernel_rfl).symm.trans hf) |>.symm;obtain rfl:fn=Go.Proofs.Tryz.f4:=(Option.some.inj (Go.Proofs.Tryz.func4.symm.trans hfn)).symm;refine⟨by kernel_rfl,fun j t ht=>?_⟩;have hm:t∈Go.Proofs.Tryz.f4.params:=Array.mem_of_getElem? ht;have hall:(Go.Proofs.Tryz.f4.params.toList.all fun u=>!Go.Proofs.Tryz.prog.wantsStandIn u)=true:=by kernel_rfl
 exact(show Go.Proofs.Tryz.prog.wantsStandIn t=false by simpa using List.all_eq_true.1 hall t (by simpa using hm))
theorem Ln(hR:∀m n:D3.Smp,D3.al Go.Proofs.Tryz.prog 4 [.v (D3.Smp.d m),.v (D3.Smp.d n)] (.bool true)):Rows.FnExactThenSchemaMapsCardSaid :=
 Claim7.holds_tied_plain_at .later [] _ _ _ _ (said hR) (fun _ h=>by cases h) (by kernel_rfl) (fun _ h=>by cases h) fnExactThenSchemaMaps_row_tie rfl ⟨rfl,rfl⟩ (by kernel_rfl) rfl plain (by kernel_rfl)
end fnExactThenSchemaMaps
end Go.Proofs.YtpnchponfnbmiaaGreatDoor
namespace Go.Proofs.YtpnchponfnbmiaaGreatDoor
open Go
theorem fnExactThenSchemaMaps_proved:Rows.FnExactThenSchemaMapsCardSaid:=fnExactThenSchemaMaps.Ln D3.Tr
#print axioms fnExactThenSchemaMaps_proved
end Go.Proofs.YtpnchponfnbmiaaGreatDoor
