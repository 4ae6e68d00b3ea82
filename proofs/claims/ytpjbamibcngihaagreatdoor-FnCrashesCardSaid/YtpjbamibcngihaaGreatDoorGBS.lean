/- WHAT THE ROWS OF THE JOURNALS LIST, as contracts take it; and from a law's contract to the row, for a law that names one variable of an interface type. -/
import Derived.Test.YtpjbamibcngihaaGreatDoorGAZ
import Derived.Test.YtpjbamibcngihaaGreatDoorGBC
import Derived.Test.YtpjbamibcngihaaGreatDoorGBQ
import Derived.Test.YtpjbamibcngihaaGreatDoorGBR
import Derived.Test.YtpjbamibcngihaaGreatDoorGAY
import Derived.Test.YtpjbamibcngihaaGreatDoorHG
import Derived.Test.YtpjbamibcngihaaGreatDoorRows
import Derived.Test.YtpjbamibcngihaaGreatDoorGAA
import Derived.Stop.LaidErr
import Derived.Lib.LaidTab
import Derived.Lib.ItoaNum
import Derived.Shelf.Vars
import Derived.LaidMore
import Derived.OpenShut
import Derived.MakeChecks
namespace Go.D3
open Go
set_option maxHeartbeats 4000000
set_option maxRecDepth 100000
def A7:List Nat:=[0,2]
def I6:Sl:=ak Go.Proofs.Tryz.types Go.Proofs.Tryz.f6 A7 []
theorem Rc:aF Go.Proofs.Tryz.prog Go.Proofs.Tryz.f6 A7 I6 1=true:=by decide +kernel
theorem HN(c:List Int):aC Go.Proofs.Tryz.prog 6 [.v (ae (D.int .u8) 0 c)] (.bool (decide (4096<(c.length:Int)))):=by
 refine ei fun hw=>?_
 simp only[dc,eW] at hw;refine aQ Go.Proofs.Tryz.func6 Rc ?_;unfold I6 ak A7;simp only[go_sem]
def A6:List Nat:=[0,2,3,4,5,6,7,8,9,10,11,12,13,14,15,16,17,18,21,22,23,24,26,27,28,29,30,31]
def I5:Sl:=ak Go.Proofs.Tryz.types Go.Proofs.Tryz.f5 A6 [(0,15),(0,21)]
theorem Rb:aF Go.Proofs.Tryz.prog Go.Proofs.Tryz.f5 A6 I5 1=true:=by decide +kernel
theorem Yo(c:List Int):aC Go.Proofs.Tryz.prog 5 [.v (ae (D.int .u8) 0 c)] (.bool true):=by
 refine ei fun hw=>?_
 simp only[dc,eW] at hw;refine aQ Go.Proofs.Tryz.func5 Rb ?_;unfold I5 ak A6;simp only[go_sem];refine av (HN c) rfl (.inl rfl) ?_;simp only[go_sem];intro hb
 have hc:fq c:=⟨by omega,fun i hi=>by
  have h1:IntKind.u8.has (c.getD i 0):=hw.1.2 (c.getD i 0) (by rw[aS hi];exact List.getElem_mem _);have h2:=h1.1;have h3:=h1.2;simp[IntKind.min,IntKind.max,IntKind.signed,IntKind.bits] at h2 h3;rw[List.getD_eq_getElem?_getD]
  omega⟩
 refine bf [] false (UN hc) ?_;rintro _ _ ⟨rfl,t,ht,rfl⟩;refine⟨(by repeat(first | exact trivial | refine⟨(fun h=>by cases h),?_⟩)),(fun h=>by cases h),?_⟩;simp only[go_sem];have hcm:=Ui t (by omega);have hcs:=UL t (by omega);have hrd:=fun u hu=>Hz u hu
 have hat:=fun i=>Uk t i (by omega)
 cases hr:bn t with
 | none =>
  rw[hr] at hcm hcs;simp only[jk] at hcm hcs;refine av hcm rfl (.inl rfl) ?_;simp only[go_sem];refine av hcs rfl (.inl rfl) ?_;simp only[go_sem];exact⟨by decide,by decide,fun _ h=>absurd h (by decide)⟩
 | some p =>
  obtain⟨hok,hH⟩:=gJ hr;have hch:=zj hr;have hs:=eA (dM hok).1;have hdl:=hH.dl;have h6:=hH.t6;have hgl:=hH.gl;have hwh:=Fc hr;obtain⟨u,e,hcd,he,hz⟩:=Mk hr;have hr1:=hrd t (by omega);rw[hcd] at hcm hcs;rw[hr] at hat hr1;refine av hcm rfl (.inl rfl) ?_;simp only[go_sem];refine av hcs rfl (.inl rfl) ?_;simp only[go_sem];refine⟨fun h=>by rw[h];rfl,fun h=>by simp at h,fun _ h=>?_⟩;simp only[oy] at hr1;refine av hr1 rfl (.inl (by simp only[D.ba,cB,bZ,ff,Bool.and_self])) ?_;simp only[go_sem];have hn:=hat p.2.tx.length;have h0:=hat 0;have h1:=hat (p.2.tx.length+1);simp only[sM] at hn h0 h1;rw[if_pos (by simp[aP])] at hn h0;rw[if_neg (by simp[aP];omega)] at h1;rw[Int.toNat_natCast,show p.2.dt.getD p.2.tx.length af.zero=p.2.last by unfold Hs.last;rw[show p.2.dt.length-1=p.2.tx.length by omega]] at hn;rw[show(0:Int).toNat=0 from rfl,hch.d0] at h0;refine av hn rfl (.inl (by simp only[D.ba,cB,bZ,ff,Bool.and_self])) ?_;simp only[go_sem];refine av h0 rfl (.inl (by simp only[D.ba,cB,bZ,ff,Bool.and_self])) ?_;simp only[go_sem];rw[aM (i:=p.2.tx.length) (n:=p.2.tx.length+1) (by omega) (by simp only[maxLen];omega)];refine av h1 rfl (.inl (by simp only[D.ba,cB,bZ,ff,Bool.and_self])) ?_;simp only[go_sem];have w0:IntKind.i64.wrap (IntKind.i64.wrap (0+0)+0)=0:=by decide
  rw[w0];refine⟨by decide,bt (fun _=>pW _ _) rfl (fun h=>h) (.inl rfl) ?_⟩;simp only[go_sem];refine⟨by decide,bt (fun _=>rN _ _) rfl (fun h=>h) (.inl rfl) ?_⟩;simp only[go_sem];refine⟨fun _=>by simp,bt (fun _=>UI _ fun x hx=>(List.mem_replicate.1 hx).2) rfl (fun h=>h) (.inl rfl) ?_⟩;simp only[go_sem];have hm1:=(rh hs).mp;have hm2:=hH.last.mp;refine⟨fun _=>by simp,fun _=>by simp,fun _=>by rw[hm1,hm2];simp,fun h=>(by rw[hm1,hm2] at h;simp at h;omega),fun _=>?_⟩;have hjs:=Hx t (by omega);rw[Ht hr] at hjs;unfold xI at hjs;refine en [] false hjs ?_;simp only[go_sem];have hwb:=hwh;unfold af.dP at hwb;rw[Bool.and_eq_true,Option.isNone_iff_eq_none] at hwb
  refine av (Uj p.1 _ _ hok hwb.1 (wD hok hwb.1) (fun x hx=>by
   have:=List.all_eq_true.1 (rR hwb.1).2.1 x hx;simp at this
   omega) hwb.2) rfl (.inl rfl) ?_
  simp only[go_sem];refine⟨by decide,fun h=>absurd h (by decide),fun _ h=>?_⟩;have he0:e=0:=by simpa using h
  subst he0;obtain⟨hul,H,hru,hla,htx,hgd⟩:=hz rfl;have hr2:=hrd u (by omega);rw[hru] at hr2;simp only[oy] at hr2;refine av hr2 rfl (.inl (by simp only[D.ba,cB,bZ,ff,Bool.and_self])) ?_;simp only[go_sem];rw[hla,hgd];refine bt (fun _=>pW _ _) rfl (fun h=>h) (.inl rfl) ?_;simp only[go_sem];refine bt (fun _=>rN _ _) rfl (fun h=>h) (.inl rfl) ?_;simp only[go_sem];simp;omega
end Go.D3
namespace Go.D3
open Go Go.ChangeShapes Go.RowKit Go.Proofs.YtpjbamibcngihaaGreatDoor
section
variable{H:Type}{enc:TypeId×Value->H}{P:Program}
theorem Cn{w:World}{n:String}{g:Nat}{cs:Array Value}(hg:P.globalNamed n=some g)(h:w.var? P n=some cs):∃t fz,w.heap[g]?=some (.cells cs t fz):=by
 simp only[World.var?,hg,Option.bind_some] at h;split at h
 ·rename_i c t fz hb
  cases h;exact⟨t,fz,hb⟩
 ·cases h
theorem Xc{w w':World}{n:String}{g:Nat}{cs:Array Value}(hg:P.globalNamed n=some g)(hb:Below w.heap.size w w')(h:w.var? P n=some cs):w'.var? P n=some cs:=by
 obtain⟨t,fz,hh⟩:=Cn hg h;have hlt:g<w.heap.size:=(Array.getElem?_eq_some_iff.1 hh).1;simp only[World.var?,hg,Option.bind_some,hb.block g hlt,hh]
theorem N0{f:FuncId}{fn:Func}{s:ChangeSpec}{ty:Ty}{tb:TypeId}{fresh handsOn again:Bool}{nm:String}{g:Nat}{ti:TypeId}{ms:Array (String×TypeId)}{x:Value}{W:World}
  (hvars:s.vars=[nm]) (hg:P.globalNamed nm=some g) (ht:(P.globals[g]?).map (·.type)=some ti) (hi:P.underlying ti=some (.interface ms)) (hx:W.var? P nm=some #[x]) (ix:IsIface x)
  (hres:fn.resultTypes=#[tb]) (htb:P.underlying tb=some .bool) (hl:laidOutB P=true)
  (hchk:ty.e8 P fn.params.toList=true) (hspec:∀(ds:List (DataW H))(e:DataW H),ds.length=fn.params.size->s.fn H (ds++[e])={ results:=[.lit (.bool true)],args:=ds,vars:=[e] }) (hR:∀y:ty.V,aC P f ((ty.args y).map .v) (.bool true))
  {base:Nat} {args:Array Value} {ds gs:List (DataW H)} {before:List MemPlace}
  (hgl:eX W (ir W)) (hval:∀(j:Nat) t v,fn.params[j]?=some t->args[j]?=some v->Value.okWide P W .any base t v) (hW:DataW.Whole enc P fn.params.toList s.vars false W args.toList ds gs before) :
  Calls P f args W fun e W'=>∃v,e=.returned v/\s.post enc P fn false fresh handsOn again W args v W':=by
 have hW':=hW;obtain⟨p,q,hA,hV,rfl,hz,_⟩:=hW;rw[hvars] at hV;obtain⟨rfl,rfl⟩:=hV.unique (vars_read1 enc hg ht hi hx ix _)
 have hlen:ds.length=fn.params.size:=by
  have key:∀{ts:List TypeId}{vs:List Value}{ds:List (DataW H)}{ps:List MemPlace},DataW.TrodAll enc P W 0 (fun _=>true) true ts vs ds ps->ds.length=ts.length:=by
   intro ts;induction ts with
   | nil=>intro vs ds ps h;obtain⟨_,rfl,_⟩:=trodAll_nil h;rfl
   | cons t ts ih=>intro vs ds ps h;obtain⟨v,vs',d,ds',a,b,_,rfl,_,_,h2⟩:=trodAll_cons h;simp[ih h2]
  simpa using key hA
 have hlt:=hW'.lt;have hltp:∀y∈p,y.block<W.heap.size:=fun y hy=>hlt y (List.mem_append_left _ hy)
 obtain⟨y,hy1,hy2⟩:=C5 (base:=base) ty hchk hA fun j t v hj hv=>hval j t v (by simpa using hj) (by simpa using hv)
 refine(hR y W (ir W) args (fun _ _=>False) hgl (fun _ h=>h) (by simpa using hy1) (fun j a ha=>?_) (fun _ _ _ _ h=>h.elim) (fun _ _ h=>h.elim)).mono ?_
 ·rw[List.getElem?_map,Option.map_eq_some_iff] at ha
  obtain⟨d,hd,rfl⟩:=ha;refine⟨?_,fun _ h=>h⟩;have:=hy2 j d hd;simpa using this
 rintro e W' ⟨v,F,Fs',rfl,hsz,hown,_,_,_,_,hsame,hos,htape,hout⟩;have hv:v=.bool true:=by cases hown;rfl
 subst hv;have hb:Below W.heap.size W W':=⟨hos,htape,hout,hsz,fun k hk=>hsame k hk fun _ h=>h⟩;refine⟨_,rfl,?_⟩;have hold:∀x∈p,(fun b=>decide (b<W.heap.size)) x.block=true:=fun x hx=>by simpa using hltp x hx
 have hsp:=hspec ds (tok enc x) hlen;have hresl:(Value.bool true).resultList fn.resultTypes.size=[.bool true]:=by rw[hres];rfl
 have hr:∀(b:Nat)(sp:Nat->Bool)(hd:Bool),DataW.TrodAll enc P W' b sp hd fn.resultTypes.toList ((Value.bool true).resultList fn.resultTypes.size) [.lit (.bool true)] []:=fun b sp hd=>by
  rw[hresl,hres];exact trodAll_cons_mk (shut_bool htb _) trodAll_mk0
 have hargs:∀sp:Nat->Bool,(∀x∈p,sp x.block=true)->DataW.TrodAll enc P W' 0 sp true fn.params.toList args.toList ds p:=fun sp h=>C4 hl hb ty hchk hA hltp h
 have hvs:∀sp:Nat->Bool,DataW.TrodVars enc P W' sp [nm] [tok enc x] [.cell g 0]:=fun sp=>vars_read1 enc hg ht hi (Xc hg hb hx) ix sp
 refine⟨ds,[tok enc x],p++[.cell g 0],[],p,[.cell g 0],hW',?_,?_,?_,NQ hb _,fun _=>⟨?_,[.lit (.bool true)]++ds,[tok enc x],p++[.cell g 0],?_,fun _ h _=>h⟩⟩
 ·rw[hsp];exact hr _ _ _
 ·rw[hsp];exact hargs _ hold
 ·rw[hsp,hvars];exact hvs _
 ·exact ok_one hres rfl (okWide_bool_mk htb _)
 ·refine⟨p,[.cell g 0],?_,by rw[hvars];exact hvs _,rfl,?_,fun h=>by cases h⟩
  ·have:=trodAll_append (hargs (fun _=>true) fun _ _=>rfl) (hr 0 (fun _=>true) true)
   simpa using this
  ·intro b off hx
   have hbl:=hlt _ hx;have:=hz b off hx
   have e:W'.frozen? ⟨b,off,none⟩=W.frozen? ⟨b,off,none⟩:=by
    unfold World.frozen?;rw[hb.block b hbl]
   rw[e];exact this
end
theorem Ei:(Go.Proofs.Tryz.prog.globals[0]?).map (·.type)=some 159:=by kernel_rfl
abbrev Eg:String:=Rows.fnSourcesSpec.vars.headD ""
abbrev Np:DataW Unit->String
 | .iface n _=>n
 | _ => ""
abbrev Eh:String:=Np Rows.laid_strconv_ErrSyntax
theorem tc:Go.Proofs.Tryz.prog.globalNamed Eg=some 0:=by kernel_rfl
theorem Ej:∃ms,Go.Proofs.Tryz.prog.underlying 159=some (.interface ms):=by
 have h:(match Go.Proofs.Tryz.prog.underlying 159 with | some (.interface _)=>true | _=>false)=true:=by kernel_rfl
 split at h
 ·rename_i ms hm
  exact⟨ms,hm⟩
 ·cases h
theorem MJ:∃f,Go.Proofs.Tryz.prog.underlying 280=some (.struct #[f])/\f.type=9/\f.offset=0:=by
 have h:(match Go.Proofs.Tryz.prog.underlying 280 with | some (.struct ⟨[f]⟩)=>decide (f.type=9/\f.offset=0) | _=>false)=true:=by kernel_rfl
 split at h
 ·rename_i f hm
  exact⟨f,hm,of_decide_eq_true h⟩
 ·cases h
theorem Vr(u:TypeId)(h:Go.Proofs.Tryz.prog.typeName? 3 u=some Eh):u=278 :=
 typeName_ptr_named (nm := "errors.errorString") (by kernel_rfl) (by kernel_rfl) (by decide) u (h.trans (by decide))
abbrev vP:List (String×DataW Unit):=Rows.fnSourcesRow.laid
theorem NZ{W:World}(h:laidMetH Go.Proofs.Tryz.prog vP W):laidMet Go.Proofs.Tryz.prog vP W:=by
 rw[MakeChecks.laidMetH_plain _ _ _ (by kernel_rfl)] at h;exact h
theorem M7{W:World}(hL:laidMetH Go.Proofs.Tryz.prog vP W)(hS:W.ShapedOpen Go.Proofs.Tryz.prog):eX W (ir W)/\∃x,W.var? Go.Proofs.Tryz.prog Eg=some #[x]/\IsIface x:=by
 have h0:=NZ hL
 have lt:∀{g:Nat}{n:String}{cs:Array Value},Go.Proofs.Tryz.prog.globalNamed n=some g->W.var? Go.Proofs.Tryz.prog n=some cs->g<W.heap.size:=fun hg hv=>by
  obtain⟨t,fz,hh⟩:=Cn hg hv;exact(Array.getElem?_eq_some_iff.1 hh).1
 obtain⟨ms,hms⟩:=Ej;have hp:Go.Proofs.Tryz.prog.underlying 278=some (.pointer 280):=by kernel_rfl
 have gp:Go.Proofs.Tryz.prog.globalNamed Go.Proofs.Tryz.rF=some 1:=by kernel_rfl
 have g5:Go.Proofs.Tryz.prog.globalNamed "strconv.ErrSyntax"=some 5:=by kernel_rfl
 have g6:Go.Proofs.Tryz.prog.globalNamed "strconv.ErrRange"=some 6:=by kernel_rfl
 have tab:Lib.TabIs Go.Proofs.Tryz.prog W Go.Proofs.Tryz.rF .u64 Lib.pow10Tab:=Lib.tabIs_of_head (t:=221) (e:=49) (n:=20) gp (by kernel_rfl) (by kernel_rfl) (by kernel_rfl) (by kernel_rfl) (by kernel_rfl) h0.tail.tail
 have eF:∀{n:String}{text:List UInt8}{r:List (String×DataW Unit)}{g:Nat},laidMet Go.Proofs.Tryz.prog ((n,.iface Eh (.ptr (.agg [.lit (.string text)])))::r) W->Go.Proofs.Tryz.prog.globalNamed n=some g->(Go.Proofs.Tryz.prog.globals[g]?).map (·.type)=some 159 ->
   ∃a,W.var? Go.Proofs.Tryz.prog n=some #[.iface 278 (.pointer (some a))]:=fun h hg ht=>by
  obtain⟨f,hf,hf1,hf2⟩:=MJ;obtain⟨a,s,hv,_⟩:=laid_sentinel (te:=280) (ts:=9) h hg ht hms Vr hp hf hf1 hf2 (by kernel_rfl) (by kernel_rfl) (by kernel_rfl);exact⟨a,hv⟩
 obtain⟨a6,v6⟩:=eF h0.tail.tail.tail.tail g6 (by kernel_rfl);obtain⟨a5,v5⟩:=eF h0.tail.tail.tail.tail.tail g5 (by kernel_rfl);obtain⟨a0,v0⟩:=eF h0.tail.tail.tail.tail.tail.tail tc Ei;have c0:W.cell? ⟨0,0,none⟩=some (.iface 278 (.pointer (some a0))):=by simpa using World.var?_cell tc v0 0
 obtain⟨m,hm⟩:=Go.Proofs.cell_of_shapedOpen_int (P:=Go.Proofs.Tryz.prog) (g:=2) (t:=3) (zero:=#[.int .i64 0]) hS (of_decide_eq_true (by kernel_rfl)) (by kernel_rfl) rfl (by kernel_rfl) (by kernel_rfl) (by kernel_rfl);have l0:=lt tc v0;refine⟨⟨fun g d hd=>?_,?_,⟨m,hm,(Dw hm).1⟩,⟨278,_,by simpa using World.var?_cell g5 v5 0,lt g5 v5⟩,⟨278,_,by simpa using World.var?_cell g6 v6 0,lt g6 v6⟩⟩,_,v0,trivial⟩
 ·match g,hd with
  | 0,hd =>
   cases hd;refine .ptr l0 (fun _=>.iface 278 (.pointer (some a0))) (fun j x hj=>?_) (fun j x hj=>?_)
   ·match j with
    | 0=>exact c0
    | _+1=>cases hj
   ·match j with
    | 0=>cases hj;exact .bD (.eF l0 c0)
    | _+1=>cases hj
 ·obtain⟨t,fz,hh⟩:=Cn gp tab
  exact⟨t,fz,hh,lt gp tab⟩
end Go.D3
