/- The row of 'FnExactJournalSets', from the law's contract. -/
import Derived.Test.YtpnchponfnbmiaaGreatDoorHG
import Derived.Test.YtpnchponfnbmiaaGreatDoorRows
import Derived.Test.YtpnchponfnbmiaaGreatDoorGAR
import Derived.Stop.LaidErr
import Derived.Lib.LaidTab
import Derived.Lib.ItoaNum
import Derived.Shelf.Vars
import Derived.LaidMore
import Derived.Lay
import Derived.OpenShut
import Derived.LaidHandle
import Derived.Stop.Joined
import Derived.Deep.DeepLaidRun
import Derived.MakeChecks
import Derived.Test.YtpnchponfnbmiaaGreatDoorCards
import Derived.Test.YtpnchponfnbmiaaGreatDoorTie
import Derived.JoinedCond
import Derived.Deep.DeepHandedRow
namespace Go.D3
open Go Go.ChangeShapes Go.RowKit Go.Proofs.YtpnchponfnbmiaaGreatDoor
section
variable{H:Type}{enc:TypeId×Value->H}{P:Program}
theorem DQ{w:World}{n:String}{g:Nat}{cs:Array Value}(hg:P.globalNamed n=some g)(h:w.var? P n=some cs):∃t fz,w.heap[g]?=some (.cells cs t fz):=by
 simp only[World.var?,hg,Option.bind_some] at h;split at h
 ·rename_i c t fz hb
  cases h;exact⟨t,fz,hb⟩
 ·cases h
theorem aa5{w w':World}{n:String}{g:Nat}{cs:Array Value}(hg:P.globalNamed n=some g)(hb:Below w.heap.size w w')(h:w.var? P n=some cs):w'.var? P n=some cs:=by
 obtain⟨t,fz,hh⟩:=DQ hg h;have hlt:g<w.heap.size:=(Array.getElem?_eq_some_iff.1 hh).1;simp only[World.var?,hg,Option.bind_some,hb.block g hlt,hh]
theorem QP{f:FuncId}{fn:Func}{s:ChangeSpec}{ty:Ty}{tb:TypeId}{fresh handsOn again:Bool}{nm:String}{g:Nat}{ti:TypeId}{ms:Array (String×TypeId)}{x:Value}{W:World}
  (hvars:s.vars=[nm]) (hg:P.globalNamed nm=some g) (ht:(P.globals[g]?).map (·.type)=some ti) (hi:P.underlying ti=some (.interface ms)) (hx:W.var? P nm=some #[x]) (ix:IsIface x)
  (hres:fn.resultTypes=#[tb]) (htb:P.underlying tb=some .bool) (hl:laidOutB P=true)
  (hchk:ty.fc P fn.params.toList=true) (hspec:∀(ds:List (DataW H))(e:DataW H),ds.length=fn.params.size->s.fn H (ds++[e])={ results:=[.lit (.bool true)],args:=ds,vars:=[e] }) (hR:∀y:ty.V,aw P f ((ty.args y).map .v) (.bool true))
  {base:Nat} {args:Array Value} {ds gs:List (DataW H)} {before:List MemPlace}
  (hgl:fb W (gV W)) (hval:∀(j:Nat) t v,fn.params[j]?=some t->args[j]?=some v->Value.okWide P W .any base t v) (hW:DataW.Whole enc P fn.params.toList s.vars false W args.toList ds gs before) :
  Calls P f args W fun e W'=>∃v,e=.returned v/\s.post enc P fn false fresh handsOn again W args v W':=by
 have hW':=hW;obtain⟨p,q,hA,hV,rfl,hz,_⟩:=hW;rw[hvars] at hV;obtain⟨rfl,rfl⟩:=hV.unique (vars_read1 enc hg ht hi hx ix _)
 have hlen:ds.length=fn.params.size:=by
  have key:∀{ts:List TypeId}{vs:List Value}{ds:List (DataW H)}{ps:List MemPlace},DataW.TrodAll enc P W 0 (fun _=>true) true ts vs ds ps->ds.length=ts.length:=by
   intro ts;induction ts with
   | nil=>intro vs ds ps h;obtain⟨_,rfl,_⟩:=trodAll_nil h;rfl
   | cons t ts ih=>intro vs ds ps h;obtain⟨v,vs',d,ds',a,b,_,rfl,_,_,h2⟩:=trodAll_cons h;simp[ih h2]
  simpa using key hA
 have hlt:=hW'.lt;have hltp:∀y∈p,y.block<W.heap.size:=fun y hy=>hlt y (List.mem_append_left _ hy)
 obtain⟨y,hy1,hy2⟩:=xI (base:=base) ty hchk hA fun j t v hj hv=>hval j t v (by simpa using hj) (by simpa using hv)
 refine(hR y W (gV W) args (fun _ _=>False) hgl (fun _ h=>h) (by simpa using hy1) (fun j a ha=>?_) (fun _ _ _ _ h=>h.elim) (fun _ _ h=>h.elim)).mono ?_
 ·rw[List.getElem?_map,Option.map_eq_some_iff] at ha
  obtain⟨d,hd,rfl⟩:=ha;refine⟨?_,fun _ h=>h⟩;have:=hy2 j d hd;simpa using this
 rintro e W' ⟨v,F,Fs',rfl,hsz,hown,_,_,_,_,hsame,hos,htape,hout⟩;have hv:v=.bool true:=by cases hown;rfl
 subst hv;have hb:Below W.heap.size W W':=⟨hos,htape,hout.1,hsz,fun k hk=>hsame k hk fun _ h=>h⟩;refine⟨_,rfl,?_⟩;have hold:∀x∈p,(fun b=>decide (b<W.heap.size)) x.block=true:=fun x hx=>by simpa using hltp x hx
 have hsp:=hspec ds (tok enc x) hlen;have hresl:(Value.bool true).resultList fn.resultTypes.size=[.bool true]:=by rw[hres];rfl
 have hr:∀(b:Nat)(sp:Nat->Bool)(hd:Bool),DataW.TrodAll enc P W' b sp hd fn.resultTypes.toList ((Value.bool true).resultList fn.resultTypes.size) [.lit (.bool true)] []:=fun b sp hd=>by
  rw[hresl,hres];exact trodAll_cons_mk (shut_bool htb _) trodAll_mk0
 have hargs:∀sp:Nat->Bool,(∀x∈p,sp x.block=true)->DataW.TrodAll enc P W' 0 sp true fn.params.toList args.toList ds p:=fun sp h=>xH hl hb ty hchk hA hltp h
 have hvs:∀sp:Nat->Bool,DataW.TrodVars enc P W' sp [nm] [tok enc x] [.cell g 0]:=fun sp=>vars_read1 enc hg ht hi (aa5 hg hb hx) ix sp
 refine⟨ds,[tok enc x],p++[.cell g 0],[],p,[.cell g 0],hW',?_,?_,?_,GO hb _,fun _=>⟨?_,[.lit (.bool true)]++ds,[tok enc x],p++[.cell g 0],?_,fun _ h _=>h⟩⟩
 ·rw[hsp];exact hr _ _ _
 ·rw[hsp];exact hargs _ hold
 ·rw[hsp,hvars];exact hvs _
 ·exact ok_one hres rfl (okWide_bool_mk htb _)
 ·refine⟨p,[.cell g 0],?_,by rw[hvars];exact hvs _,rfl,?_,fun h=>by cases h⟩
  ·have:=trodAll_append (hargs (fun _=>true) fun _ _=>rfl) (hr 0 (fun _=>true) true)
   simpa using this
  ·intro b off hx
   have hbl:=hlt _ hx;have:=hz b off hx
   have e:W'.frozen? ⟨b,off,none⟩=W.frozen? ⟨b,off,none⟩:=by
    unfold World.frozen?;rw[hb.block b hbl]
   rw[e];exact this
end
theorem FU:(Go.Proofs.Tryz.prog.globals[1]?).map (·.type)=some 177:=by kernel_rfl
abbrev yA:String:=Rows.fnExactJournalSetsSpec.vars.headD ""
abbrev P7:DataW Unit->String
 | .iface n _=>n
 | _ => ""
abbrev FT:String:=P7 Rows.laid_strconv_ErrSyntax
theorem u9:Go.Proofs.Tryz.prog.globalNamed yA=some 1:=by kernel_rfl
theorem FV:∃ms,Go.Proofs.Tryz.prog.underlying 177=some (.interface ms):=by
 have h:(match Go.Proofs.Tryz.prog.underlying 177 with | some (.interface _)=>true | _=>false)=true:=by kernel_rfl
 split at h
 ·rename_i ms hm
  exact⟨ms,hm⟩
 ·cases h
theorem Pv:∃f,Go.Proofs.Tryz.prog.underlying 378=some (.struct #[f])/\f.type=9/\f.offset=0:=by
 have h:(match Go.Proofs.Tryz.prog.underlying 378 with | some (.struct ⟨[f]⟩)=>decide (f.type=9/\f.offset=0) | _=>false)=true:=by kernel_rfl
 split at h
 ·rename_i f hm
  exact⟨f,hm,of_decide_eq_true h⟩
 ·cases h
theorem Zh(u:TypeId)(h:Go.Proofs.Tryz.prog.typeName? 3 u=some FT):u=376 :=
 typeName_ptr_named (nm := "errors.errorString") (by kernel_rfl) (by kernel_rfl) (by decide) u (h.trans (by decide))
abbrev uy:List (String×DataW Unit):=Rows.fnExactJournalSetsRow.laid
theorem Pw:Go.Proofs.Tryz.prog.globalNamed "errors.errorType"=some 0:=by kernel_rfl
theorem Pz:(Go.Proofs.Tryz.prog.cutTypes.find? (·.1 == "internal/reflectlite.rtype")).map (·.2)=some 264:=by kernel_rfl
theorem Py:((List.range Go.Proofs.Tryz.prog.types.size).filter fun t=>Go.Proofs.Tryz.prog.rowNamed t [101,114,114,111,114])=[177]:=by kernel_rfl
theorem QM{W:World}(h:laidMetH Go.Proofs.Tryz.prog uy W):laidMet Go.Proofs.Tryz.prog [("math/bits.deBruijn32tab",Rows.laid_math_bits_deBruijn32tab),("math/bits.deBruijn64tab",Rows.laid_math_bits_deBruijn64tab),(Go.Proofs.Tryz.rv,Rows.laid_internal_strconv_uint64pow10),("unicode/utf8.acceptRanges",Rows.laid_unicode_utf8_acceptRanges),("strconv.ErrRange",Rows.laid_strconv_ErrRange),("strconv.ErrSyntax",Rows.laid_strconv_ErrSyntax),(yA,Rows.laid_loop_example_g01083_impl_errSyntax),("unicode/utf8.first",Rows.laid_unicode_utf8_first)] W/\handlesMet Go.Proofs.Tryz.prog [("errors.errorType",Rows.laid_errors_errorType)] W:=h
theorem Px{W:World}(h:handlesMet Go.Proofs.Tryz.prog [("errors.errorType",Rows.laid_errors_errorType)] W):W.cell? ⟨0,0,none⟩=some (.iface 264 (.agg #[.pointer (some ⟨10,177,none⟩)])):=by
 obtain⟨name,u,ty,e1,e2,e3,e4,e5⟩:=h _ (List.mem_singleton.2 rfl);have en:name=[101,114,114,111,114]:=(Option.some.inj e1).symm;subst en;obtain rfl:=Option.some.inj (Pz.symm.trans e2);have hm:ty∈(List.range Go.Proofs.Tryz.prog.types.size).filter fun t=>Go.Proofs.Tryz.prog.rowNamed t [101,114,114,111,114]:=List.mem_filter.2 ⟨List.mem_range.2 e3,e4⟩
 rw[Py] at hm;obtain rfl:=List.mem_singleton.1 hm;have hh:typeHandle Go.Proofs.Tryz.prog 177=.pointer (some ⟨10,177,none⟩):=by kernel_rfl
 rw[hh] at e5;simpa using World.var?_cell Pw e5 0
theorem PN{W:World}(hL:laidMetH Go.Proofs.Tryz.prog uy W)(hS:W.ShapedOpen Go.Proofs.Tryz.prog):fb W (gV W)/\∃x,W.var? Go.Proofs.Tryz.prog yA=some #[x]/\IsIface x:=by
 obtain⟨h0,hh0⟩:=QM hL;have hE:=Px hh0
 have lt:∀{g:Nat}{n:String}{cs:Array Value},Go.Proofs.Tryz.prog.globalNamed n=some g->W.var? Go.Proofs.Tryz.prog n=some cs->g<W.heap.size:=fun hg hv=>by
  obtain⟨t,fz,hh⟩:=DQ hg hv;exact(Array.getElem?_eq_some_iff.1 hh).1
 obtain⟨ms,hms⟩:=FV;have hp:Go.Proofs.Tryz.prog.underlying 376=some (.pointer 378):=by kernel_rfl
 have gp:Go.Proofs.Tryz.prog.globalNamed Go.Proofs.Tryz.rv=some 2:=by kernel_rfl
 have g5:Go.Proofs.Tryz.prog.globalNamed "strconv.ErrSyntax"=some 6:=by kernel_rfl
 have g6:Go.Proofs.Tryz.prog.globalNamed "strconv.ErrRange"=some 7:=by kernel_rfl
 have cP:Lib.TabIs Go.Proofs.Tryz.prog W Go.Proofs.Tryz.rv .u64 Lib.pow10Tab:=Lib.tabIs_of_head (t:=302) (e:=279) (n:=20) gp (by kernel_rfl) (by kernel_rfl) (by kernel_rfl) (by kernel_rfl) (by kernel_rfl) h0.tail.tail
 have eo:∀{n:String}{text:List UInt8}{r:List (String×DataW Unit)}{g:Nat},laidMet Go.Proofs.Tryz.prog ((n,.iface FT (.ptr (.agg [.lit (.string text)])))::r) W->Go.Proofs.Tryz.prog.globalNamed n=some g->(Go.Proofs.Tryz.prog.globals[g]?).map (·.type)=some 177 ->
   ∃a,W.var? Go.Proofs.Tryz.prog n=some #[.iface 376 (.pointer (some a))]:=fun h hg ht=>by
  obtain⟨f,hf,hf1,hf2⟩:=Pv;obtain⟨a,s,hv,_⟩:=laid_sentinel (te:=378) (ts:=9) h hg ht hms Zh hp hf hf1 hf2 (by kernel_rfl) (by kernel_rfl) (by kernel_rfl);exact⟨a,hv⟩
 obtain⟨a6,v6⟩:=eo h0.tail.tail.tail.tail g6 (by kernel_rfl);obtain⟨a5,v5⟩:=eo h0.tail.tail.tail.tail.tail g5 (by kernel_rfl);obtain⟨a0,v0⟩:=eo h0.tail.tail.tail.tail.tail.tail u9 FU;have c0:W.cell? ⟨1,0,none⟩=some (.iface 376 (.pointer (some a0))):=by simpa using World.var?_cell u9 v0 0
 obtain⟨m,hm⟩:=Go.Proofs.cell_of_shapedOpen_int (P:=Go.Proofs.Tryz.prog) (g:=3) (t:=3) (zero:=#[.int .i64 0]) hS (of_decide_eq_true (by kernel_rfl)) (by kernel_rfl) rfl (by kernel_rfl) (by kernel_rfl) (by kernel_rfl);have l0:=lt u9 v0;refine⟨⟨fun g d hd=>?_,⟨hE,(x8 hE).1⟩,?_,⟨m,hm,(x8 hm).1⟩,⟨376,_,by simpa using World.var?_cell g5 v5 0,lt g5 v5⟩,⟨376,_,by simpa using World.var?_cell g6 v6 0,lt g6 v6⟩⟩,_,v0,trivial⟩
 ·match g,hd with
  | 1,hd =>
   cases hd;refine .ptr l0 (fun _=>.iface 376 (.pointer (some a0))) (fun j x hj=>?_) (fun j x hj=>?_)
   ·match j with
    | 0=>exact c0
    | _+1=>cases hj
   ·match j with
    | 0=>cases hj;exact .bf (.eo l0 c0)
    | _+1=>cases hj
 ·obtain⟨t,fz,hh⟩:=DQ gp cP
  exact⟨t,fz,hh,lt gp cP⟩
abbrev lJ:List (String×DataW Unit):=uy.filter fun x=>x.2.handleName?.isNone
noncomputable def sB(os:Os):World:=(World.doorLaid Go.Proofs.Tryz.prog 98 os).layVars Go.Proofs.Tryz.prog lJ
theorem Po(os:Os):(sB os).os=os:=World.layVars_os _ _ _
theorem Pk(os:Os):(World.doorLaid Go.Proofs.Tryz.prog 98 os).layFits Go.Proofs.Tryz.prog lJ []=true:=by kernel_rfl
theorem Pm(os:Os):(World.doorLaid Go.Proofs.Tryz.prog 98 os).layIfaces Go.Proofs.Tryz.prog lJ (sB os)=true:=by kernel_rfl
theorem Pn(os:Os)(args:Array Value):laidMetH Go.Proofs.Tryz.prog uy ((sB os).forCall (fun _ _=>0) ⟨#[],args,[]⟩).memory:=by
 refine laidMetH_of_parts ?_ (by kernel_rfl);have e1:(lJ.filter fun x=>(lJ.map (·.1)).contains x.1)=lJ:=List.filter_eq_self.2 fun x hx=>List.contains_iff_mem.2 (List.mem_map.2 ⟨x,hx,rfl⟩)
 have e2:(lJ.filter fun x=>!(lJ.map (·.1)).contains x.1)=[]:=List.filter_eq_nil_iff.2 fun x hx=>by rw[List.contains_iff_mem.2 (List.mem_map.2 ⟨x,hx,rfl⟩)];simp
 have h:laidMet Go.Proofs.Tryz.prog lJ (sB os):=laidMet_layVars (w0:=World.doorLaid Go.Proofs.Tryz.prog 98 os) (lJ.map (·.1)) [] (by rw[e1];rfl) (by rw[e1];exact Pk os) (by rw[e1];exact Pm os) (by rw[e2];exact LaidIn.none);exact h.of_heap (by simp[World.memory,World.forCall,Input.heap])
end Go.D3
namespace Go.Proofs.YtpnchponfnbmiaaGreatDoor
open Go
namespace fnExactJournalSets
theorem own:ownKnob Go.Proofs.Tryz.prog.godebug=none:=by kernel_rfl
theorem laid:laidOutB Go.Proofs.Tryz.prog=true:=by kernel_rfl
theorem dJ:(D3.Ty.cons .str .nil).fc Go.Proofs.Tryz.prog Go.Proofs.Tryz.f5.params.toList=true:=by kernel_rfl
theorem res:Go.Proofs.Tryz.f5.resultTypes=#[4]:=by kernel_rfl
theorem tb:Go.Proofs.Tryz.prog.underlying 4=some .bool:=by kernel_rfl
theorem np:Go.Proofs.Tryz.f5.params.size=1:=by kernel_rfl
set_option maxRecDepth 100000 in
theorem lifted(hR:∀t:List UInt8,D3.aw Go.Proofs.Tryz.prog 5 [.v (.str t)] (.bool true))(os:Os)(started:os.Started)(H:Type)(enc:TypeId×Value->H)(F:Stop.Interp) :
  ReturnsInHanded {} Go.Proofs.Tryz.checked os 5 .any ((OpenSpec.ofChange Rows.fnExactJournalSetsSpec).preRow enc Go.Proofs.Tryz.prog Go.Proofs.Tryz.f5 Rows.fnExactJournalSetsRow.domain false Rows.fnExactJournalSetsRow.laid) (((OpenSpec.ofChange Rows.fnExactJournalSetsSpec).at F).post enc Go.Proofs.Tryz.prog Go.Proofs.Tryz.f5 false true false false):=by
 refine returnsInHanded_of_row (C:=Go.Proofs.Tryz.checked) (s:=OpenSpec.ofChange Rows.fnExactJournalSetsSpec) own started (by kernel_rfl) Go.Proofs.Tryz.func5
  (ChangeSpec.witness_shaped (enc:=enc) (C:=Go.Proofs.Tryz.checked) (os:=os) (s:=Rows.fnExactJournalSetsSpec) (conds:=Rows.fnExactJournalSetsRow.domain) (X:=fun w _=>laidMetH Go.Proofs.Tryz.prog Rows.fnExactJournalSetsRow.laid w) false (D3.sB os) #[.string ⟨#[]⟩] 8 (D3.Po os)
    (World.shaped_of_ZipB (by kernel_rfl) (by kernel_rfl)) (by kernel_rfl) (by kernel_rfl) (by kernel_rfl) (D3.Pn os _)) ?_
 intro W base args ds gs before hval hW _ _ _ hL hS _;obtain⟨ms,hms⟩:=D3.FV;obtain⟨hG,x,hx,ix⟩:=D3.PN hL hS;refine D3.QP (ty:=.cons .str .nil) (s:=Rows.fnExactJournalSetsSpec) rfl D3.u9 D3.FU hms hx ix res tb laid dJ (fun ds e hd=>?_) (fun y=>hR y.1) hG hval hW;rw[np] at hd
 match ds,hd with
 | [d],_=>rfl
end fnExactJournalSets
end Go.Proofs.YtpnchponfnbmiaaGreatDoor
