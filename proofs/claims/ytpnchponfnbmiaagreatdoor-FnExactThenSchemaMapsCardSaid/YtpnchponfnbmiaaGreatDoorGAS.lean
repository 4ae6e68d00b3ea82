/- CONTRACTS: split texts, both sides. -/
import Derived.Test.YtpnchponfnbmiaaGreatDoorGAR
import Derived.Shelf.Strings.OnBuilder
import Derived.Shelf.Small.Wraps
import Derived.Shelf.LaysM
import Derived.Shelf.Strconv.Itoa4
import Derived.Shelf.LaysC
import Derived.Shelf.Strconv.ParseIntPublic10
import Derived.Shelf.Strings.Cut
import Derived.Shelf.GgClosure.StringsRunes
import Derived.Shelf.Strings.Split
import Derived.Test.YtpnchponfnbmiaaGreatDoorProg
import Derived.Test.YtpnchponfnbmiaaGreatDoorRows
import Derived.Test.YtpnchponfnbmiaaGreatDoorHG
import Derived.Lib.LaidTab
import Derived.Lib.ParseIntBTie
import Derived.Lib.CutLaws
import Derived.Lib.CountLaws
import Derived.Lib.ItoaLen
import Derived.Lib.SplitLaws
import Derived.Lib.Join
import Derived.Test.YtpnchponfnbmiaaGreatDoorGAA
namespace Go.D3
open Go
set_option maxRecDepth 100000
set_option maxHeartbeats 4000000
theorem TF(m n:Smp)(hcm:Smp.cost m<=1048576)(hcn:Smp.cost n<=1048576):al Go.Proofs.Tryz.prog 15 [.v (Smp.d m),.v (Smp.d n)] (.ah [Smp.d (m.lG n).1,.int .i64 (m.lG n).2]):=by
 have hct:Sch.cost m.av<=1048576:=by unfold Smp.cost at hcm;omega
 unfold Smp.lG;by_cases hm:m.okB=true
 rotate_left
 ·rw[if_neg fun h=>hm h.1]
  exact Hg (.inl (by rwa [Bool.not_eq_true] at hm))
 by_cases hn:n.okB=true
 rotate_left
 ·rw[if_neg fun h=>hn h.2]
  exact Hg (.inr (by rwa [Bool.not_eq_true] at hn))
 rw[if_pos ⟨hm,hn⟩];rcases xf hm with⟨e1,e2⟩ | ⟨a,b,e1,ha,hb⟩
 ·have key:al Go.Proofs.Tryz.prog 15 [.v (Smp.d m),.v (Smp.d n)] (.ah [Smp.d Smp.zero,.int .i64 3]):=by
   rcases xf hn with⟨e3,_⟩ | ⟨c,d,e3,_,_⟩ <;>
    exact yX hm hn hct e1 e3 (fun _=>rfl) fun h=>absurd (.inl rfl) h
  rcases e2 with e2 | e2
  ·rw[e2];exact key
  ·rw[e2];cases m.src.aU<;>exact key
 rcases xf hn with⟨e3,e4⟩ | ⟨c,d,e3,hc,hd⟩
 ·have key:=yX (z:=3) hm hn hct e1 e3 (fun _=>rfl) fun h=>absurd (.inr rfl) h
  rw[ha,hb];rcases e4 with e4 | e4
  ·rw[e4];exact key
  ·rw[e4];cases n.src.aU<;>exact key
 rw[ha,hb,hc,hd];have no3:∀c:Bool,(if c=true then(0:Int) else 5)≠3:=fun c=>by cases c<;>decide
 by_cases h:(m.dK b&&n.dK d&&ja m.av n.src)=true
 ·simp only[if_pos h]
  simp only[Bool.and_eq_true] at h
  have e:m.av=n.src:=by
   refine Classical.byContradiction fun hne=>?_
   rw[<-lA hne] at h;cases h.2
  rw[if_pos h.1.1] at e1;rw[if_pos h.1.2] at e3;have hcb:c=b:=by rw[e,hc] at hb;exact Option.some.inj hb
  subst hcb;exact TZ hm hn e1 e3 e hb hd hcm hcn
 ·simp only[if_neg h]
  refine yX hm hn hct e1 e3 (fun h3=>h3.elim (fun h=>absurd h (no3 _)) fun h=>absurd h (no3 _)) fun _=>⟨rfl,?_⟩
  rw[Bool.not_eq_true,Bool.and_eq_false_iff,Bool.and_eq_false_iff] at h;rcases h with(h | h) | h
  ·exact .inl (by rw[h];decide)
  ·exact .inr (.inl (by rw[h];decide))
  ·exact .inr (.inr h)
end Go.D3
namespace Go.Proofs
open Go.Shelf
abbrev Tryz.pU:String:=(YtpnchponfnbmiaaGreatDoor.Rows.fnExactThenSchemaMapsRow.laid.getD 2 ("",.nil)).1
def Tryz.Ej:Go.Shelf.Ren:=⟨fun | 156=>119 | 165=>152 | 166=>153 | 169=>154 | 240=>194 | 241=>195 | 276=>219 | 277=>220 | n=>n,fun | 31=>184 | 9=>9 | 3=>3 | 4=>4 | 0=>0 | 20=>20 | 72=>230 | 76=>232 | 70=>228 | 37=>190 | 75=>177 | 127=>284 | 164=>216 | 5=>5 | 80=>143 | n=>n,fun | n=>n⟩
theorem Tryz.Ei:Go.Proofs.Lays.n156 Tryz.prog Tryz.Ej:={
 mixed:=by kernel_rfl
 f156:=Tryz.func119.trans (congrArg some (by kernel_rfl))
 f165:=Tryz.func152.trans (congrArg some (by kernel_rfl))
 f166:=Tryz.func153.trans (congrArg some (by kernel_rfl))
 f169:=Tryz.func154.trans (congrArg some (by kernel_rfl))
 f240:=Tryz.func194.trans (congrArg some (by kernel_rfl))
 f241:=Tryz.func195.trans (congrArg some (by kernel_rfl))
 f276:=Tryz.func219.trans (congrArg some (by kernel_rfl))
 f277:=Tryz.func220.trans (congrArg some (by kernel_rfl))
 t0:=Tryz.underlying0
 a0:=Tryz.isAgg0
 z0:=Tryz.sizeOf0
 v0:=Tryz.zeroValue0
 t3:=Tryz.underlying3
 a3:=Tryz.isAgg3
 z3:=Tryz.sizeOf3
 v3:=Tryz.zeroValue3
 t4:=Tryz.underlying4
 a4:=Tryz.isAgg4
 z4:=Tryz.sizeOf4
 v4:=Tryz.zeroValue4
 t9:=Tryz.underlying9
 a9:=Tryz.isAgg9
 z9:=Tryz.sizeOf9
 v9:=Tryz.zeroValue9
 t20:=Tryz.underlying20
 a20:=Tryz.isAgg20
 z20:=Tryz.sizeOf20
 v20:=Tryz.zeroValue20
 t31:=Tryz.underlying184
 a31:=Tryz.isAgg184
 z31:=Tryz.sizeOf184
 v31:=Tryz.zeroValue184
 t37:=Tryz.underlying190
 a37:=Tryz.isAgg190
 z37:=Tryz.sizeOf190
 v37:=Tryz.zeroValue190
 t70:=Tryz.underlying228
 a70:=Tryz.isAgg228
 z70:=Tryz.sizeOf228
 v70:=Tryz.zeroValue228
 t72:=Tryz.underlying230
 a72:=Tryz.isAgg230
 z72:=Tryz.sizeOf230
 v72:=Tryz.zeroValue230
 t75:=Tryz.underlying177
 a75:=Tryz.isAgg177
 z75:=Tryz.sizeOf177
 v75:=Tryz.zeroValue177
 t76:=Tryz.underlying232
 a76:=Tryz.isAgg232
 z76:=Tryz.sizeOf232
 v76:=Tryz.zeroValue232
 t127:=Tryz.underlying284
 a127:=Tryz.isAgg284
 z127:=Tryz.sizeOf284
 v127:=Tryz.zeroValue284
 t164:=Tryz.underlying216
 a164:=Tryz.isAgg216
 z164:=Tryz.sizeOf216
 v164:=Tryz.zeroValue216 }
theorem Tryz.BO:Builder.Extra Tryz.prog Tryz.Ej:={
 sizeBuilder:=by kernel_rfl
 liesBuilder:=by kernel_rfl
 t5:=Tryz.underlying5
 a5:=Tryz.isAgg5
 z5:=Tryz.sizeOf5
 v5:=Tryz.zeroValue5
 infoByte:=by kernel_rfl
 cellsByte:=by kernel_rfl
 sizeByte:=by kernel_rfl
 neB5:=by decide }
open Go.RowKit in
theorem Tryz.strings_Join(bk o c:Nat)(xs:List ByteArray)(sep:ByteArray)(w:World)(hcells:∀(j:Nat) x,xs[j]?=some x->w.cell? ⟨bk,o+j,none⟩=some (.string x))(hbk:bk<w.heap.size)(hN:xs.length<=140737488355328)(hcap:xs.length<=c)(hlen:(Lib.join (xs.map (·.data.toList)) sep.data.toList).length<=140737488355328) :
  Calls Tryz.prog 119 #[.slice (some ⟨bk,o,none⟩) xs.length c,.string sep] w fun e w'=>e=.returned (.string ⟨(Lib.join (xs.map (·.data.toList)) sep.data.toList).toArray⟩)/\Below w.heap.size w w':=Any.strings_Join Tryz.Ei Tryz.BO bk o c xs sep w hcells hbk hN hcap hlen
open Go.RowKit in
theorem Tryz.strings_Join_none(a:Option Addr)(c:Nat)(sep:ByteArray)(w:World) :
  Calls Tryz.prog 119 #[.slice a 0 c,.string sep] w fun e w'=>e=.returned (.string ⟨#[]⟩)/\w'=w:=Any.strings_Join_none Tryz.Ei Tryz.BO a c sep w
def Tryz.M6:Go.Shelf.Ren:=⟨fun | 173=>117 | 246=>151 | 283=>190 | 284=>191 | 285=>192 | 286=>193 | 129=>215 | 317=>214 | 318=>216 | 319=>217 | 320=>218 | 337=>241 | 338=>242 | n=>n,fun | 2=>2 | 3=>3 | 9=>9 | 4=>4 | 171=>278 | 0=>0 | 53=>279 | 37=>190 | 5=>5 | 173=>282 | 212=>302 | 51=>303 | 20=>20 | 213=>304 | 46=>298 | 232=>350 | 233=>351 | n=>n,fun | 17=>2 | 18=>4 | 19=>5 | n=>n⟩
theorem Tryz.M5:Go.Proofs.LaysM.n173 Tryz.prog Tryz.M6:={
 mixed:=by kernel_rfl
 f129:=Tryz.func215.trans (congrArg some (by kernel_rfl))
 f173:=Tryz.func117.trans (congrArg some (by kernel_rfl))
 f246:=Tryz.func151.trans (congrArg some (by kernel_rfl))
 f283:=Tryz.func190.trans (congrArg some (by kernel_rfl))
 f284:=Tryz.func191.trans (congrArg some (by kernel_rfl))
 f285:=Tryz.func192.trans (congrArg some (by kernel_rfl))
 f286:=Tryz.func193.trans (congrArg some (by kernel_rfl))
 f317:=Tryz.func214.trans (congrArg some (by kernel_rfl))
 f318:=Tryz.func216.trans (congrArg some (by kernel_rfl))
 f319:=Tryz.func217.trans (congrArg some (by kernel_rfl))
 f320:=Tryz.func218.trans (congrArg some (by kernel_rfl))
 f337:=Tryz.func241.trans (congrArg some (by kernel_rfl))
 f338:=Tryz.func242.trans (congrArg some (by kernel_rfl))
 t0:=Tryz.underlying0
 a0:=Tryz.isAgg0
 z0:=Tryz.sizeOf0
 v0:=Tryz.zeroValue0
 t2:=Tryz.underlying2
 a2:=Tryz.isAgg2
 z2:=Tryz.sizeOf2
 v2:=Tryz.zeroValue2
 t3:=Tryz.underlying3
 a3:=Tryz.isAgg3
 z3:=Tryz.sizeOf3
 v3:=Tryz.zeroValue3
 t4:=Tryz.underlying4
 a4:=Tryz.isAgg4
 z4:=Tryz.sizeOf4
 v4:=Tryz.zeroValue4
 t5:=Tryz.underlying5
 a5:=Tryz.isAgg5
 z5:=Tryz.sizeOf5
 v5:=Tryz.zeroValue5
 t9:=Tryz.underlying9
 a9:=Tryz.isAgg9
 z9:=Tryz.sizeOf9
 v9:=Tryz.zeroValue9
 t20:=Tryz.underlying20
 a20:=Tryz.isAgg20
 z20:=Tryz.sizeOf20
 v20:=Tryz.zeroValue20
 t37:=Tryz.underlying190
 a37:=Tryz.isAgg190
 z37:=Tryz.sizeOf190
 v37:=Tryz.zeroValue190
 t46:=Tryz.underlying298
 a46:=Tryz.isAgg298
 z46:=Tryz.sizeOf298
 v46:=Tryz.zeroValue298
 t51:=Tryz.underlying303
 a51:=Tryz.isAgg303
 z51:=Tryz.sizeOf303
 v51:=Tryz.zeroValue303
 t53:=Tryz.underlying279
 a53:=Tryz.isAgg279
 z53:=Tryz.sizeOf279
 v53:=Tryz.zeroValue279
 t171:=Tryz.underlying278
 a171:=Tryz.isAgg278
 z171:=Tryz.sizeOf278
 v171:=Tryz.zeroValue278
 t173:=Tryz.underlying282
 a173:=Tryz.isAgg282
 z173:=Tryz.sizeOf282
 v173:=Tryz.zeroValue282
 t212:=Tryz.underlying302
 a212:=Tryz.isAgg302
 z212:=Tryz.sizeOf302
 v212:=Tryz.zeroValue302
 t213:=Tryz.underlying304
 a213:=Tryz.isAgg304
 z213:=Tryz.sizeOf304
 t232:=Tryz.underlying350
 a232:=Tryz.isAgg350
 z232:=Tryz.sizeOf350
 v232:=Tryz.zeroValue350
 t233:=Tryz.underlying351
 a233:=Tryz.isAgg351
 z233:=Tryz.sizeOf351
 v233:=Tryz.zeroValue351
 g17:=by kernel_rfl
 g18:=by kernel_rfl
 g19:=by kernel_rfl
 i0:=by kernel_rfl
 i2:=by kernel_rfl
 i3:=by kernel_rfl
 i4:=by kernel_rfl
 i5:=by kernel_rfl
 i9:=by kernel_rfl
 i20:=by kernel_rfl
 i37:=by kernel_rfl
 i46:=by kernel_rfl
 i51:=by kernel_rfl
 i53:=by kernel_rfl
 i171:=by kernel_rfl
 i173:=by kernel_rfl
 i212:=by kernel_rfl
 i232:=by kernel_rfl
 i233:=by kernel_rfl
 m17:=by kernel_rfl
 m18:=by kernel_rfl
 m19:=by kernel_rfl }
open Go.RowKit Go.Sort Go.Lib in
theorem Tryz.strconv_FormatInt_10(n:Int)(h0 : -9223372036854775808<=n)(h1:n<=9223372036854775807)(w:World)(htab:Lib.TabIs Tryz.prog w Tryz.pU .u64 Lib.pow10Tab) :
  Calls Tryz.prog 117 #[.int .i64 n,.int .i64 10] w fun e w'=>e=.returned (.string ⟨(Lib.itoa n).toArray⟩)/\∃k os,w'=grow (w.drewN k) os:=Any.strconv_FormatInt_10 Tryz.M5 n h0 h1 w htab
end Go.Proofs
namespace Go.D3
open Go Go.RowKit
theorem Tv{P:Program}{f:FuncId}{xs:List D}{res:D}(h:∀(w:World)(A:Nat->Prop)(vs:Array Value),eT w A->(∀b,A b->b<w.heap.size)->vs.size=xs.length->(∀(j:Nat)(d:D),xs[j]?=some d->Rd w A (vs.getD j undef) d) ->
  Calls P f vs w fun e w'=>∃(v:Value)(F:Nat->Prop),e=.returned v/\aj w' (fun b=>A b\/(w.heap.size<=b/\b<w'.heap.size/\¬F b)) v res F/\(∀b,F b->w.heap.size<=b/\b<w'.heap.size)/\Below w.heap.size w w'):al P f (xs.map .v) res:=by
 intro w A vs Fs hg hA hvs hpre _ _;refine(h w A vs hg hA (by simpa using hvs) fun j d hd=>?_).mono ?_
 ·exact(hpre j (.v d) (by simp[hd])).1
 ·rintro e w' ⟨v,F,rfl,hown,hF,hb⟩
  refine⟨v,F,fun _ _=>False,rfl,hb.size,hown.mono (fun b h=>h.imp id fun h=>⟨h.1,h.2.1,h.2.2,fun _ h=>h⟩) (fun _ _=>rfl) (fun _ _=>rfl) fun _ h=>h,fun j a ha=>?_,fun b h=>⟨(hF b h).2,.inl (hF b h).1,fun _ h=>h⟩,fun _ _ h=>h.elim,fun _ _ _ _ h=>h.elim,fun b h _=>hb.block b h,hb.os,hb.tape,ye hb.output⟩;rw[List.getElem?_map,Option.map_eq_some_iff] at ha;obtain⟨d,_,rfl⟩:=ha;exact fun _ h=>h
theorem G5{P:Program}{f:FuncId}{xs:List D}{res:D}(h:∀(w:World)(A:Nat->Prop)(vs:Array Value),eT w A->(∀b,A b->b<w.heap.size)->vs.size=xs.length->(∀(j:Nat)(d:D),xs[j]?=some d->Rd w A (vs.getD j undef) d) ->
  Calls P f vs w fun e w'=>∃v:Value,e=.returned v/\aj w' (fun _=>False) v res (fun _=>False)/\Below w.heap.size w w'):al P f (xs.map .v) res :=
 Tv fun w A vs hg hA hvs hpre=>(h w A vs hg hA hvs hpre).mono fun _ _ ⟨v,he,hown,hb⟩=>⟨v,fun _=>False,he,hown.mono (fun _ h=>h.elim) (fun _ _=>rfl) (fun _ _=>rfl) fun _ h=>h,fun _ h=>h.elim,hb⟩
theorem Cb{vs:Array Value}(h:vs.size=2):vs=#[vs.getD 0 undef,vs.getD 1 undef]:=by
 match vs,h with
 | ⟨[a,b]⟩,_=>rfl
theorem Gh{w:World}{A:Nat->Prop}{v:Value}{s:List UInt8}(h:Rd w A v (.str s)):v=.string ⟨s.toArray⟩/\s.length<=maxLen:=by cases h;exact⟨rfl,‹_›⟩
theorem Gf{w:World}{A:Nat->Prop}{v:Value}{k:IntKind}{n:Int}(h:Rd w A v (.int k n)):v=.int k n/\k.has n:=by cases h;exact⟨rfl,‹_›⟩
theorem Vr{w:World}{A:Nat->Prop}(h:eT w A):Lib.TabIs Go.Proofs.Tryz.prog w Go.Proofs.Tryz.pU .u64 Lib.pow10Tab:=by
 obtain⟨t,fz,h1,_⟩:=h.pow;unfold Lib.TabIs World.var?;rw[show Go.Proofs.Tryz.prog.globalNamed Go.Proofs.Tryz.pU=some 2 by kernel_rfl];simp[h1]
theorem uH{n:Int}:al Go.Proofs.Tryz.prog 117 [.v (.int .i64 n),.v (.int .i64 10)] (.str (Lib.itoa n)):=by
 refine G5 (xs:=[.int .i64 n,.int .i64 10]) fun w A vs hg hA hvs hpre=>?_
 rw[Cb hvs];obtain⟨e1,l1⟩:=Gf (hpre 0 _ rfl);obtain⟨e2,_⟩:=Gf (hpre 1 _ rfl);rw[e1,e2]
 have h1 : -9223372036854775808<=n/\n<=9223372036854775807:=by
  have:=l1;simp[IntKind.has,IntKind.min,IntKind.max,IntKind.signed,IntKind.bits] at this;exact this
 refine(Go.Proofs.Tryz.strconv_FormatInt_10 n h1.1 h1.2 w (Vr hg)).mono ?_;rintro e w' ⟨rfl,k,os,rfl⟩;refine⟨_,rfl,.str ?_,⟨rfl,rfl,rfl,by simp[Go.Sort.grow],fun j hj=>?_⟩⟩
 ·have:=Lib.itoa_length_le n h1.1 h1.2
  simp only[maxLen];omega
 ·show(w.heap++os)[j]?=_
  rw[Array.getElem?_append_left hj]
theorem GS{l:List (List UInt8)}{sep:List UInt8}(hn:l.length<=140737488355328)(hlen:(Lib.join l sep).length<=140737488355328) :
  al Go.Proofs.Tryz.prog 119 [.v (fF l),.v (.str sep)] (.str (Lib.join l sep)):=by
 refine G5 (xs:=[fF l,.str sep]) fun w A vs hg hA hvs hpre=>?_
 rw[Cb hvs];obtain⟨e2,_⟩:=Gh (hpre 1 _ rfl);rw[e2];have h0:Rd w A (vs.getD 0 undef) (fF l):=hpre 0 _ rfl
 have none:∀{p:Option Addr}{c:Nat},l=[]->Calls Go.Proofs.Tryz.prog 119 #[.slice p 0 c,.string ⟨sep.toArray⟩] w fun e w'=>∃v:Value,e=.returned v/\aj w' (fun _=>False) v (.str (Lib.join l sep)) (fun _=>False)/\Below w.heap.size w w':=by
  rintro p c rfl;refine(Go.Proofs.Tryz.strings_Join_none p c ⟨sep.toArray⟩ w).mono ?_;rintro e w' ⟨rfl,rfl⟩;exact⟨_,rfl,aj.str (s:=[]) (by simp),Below.refl _ _⟩
 unfold fF U at h0;generalize hL:l.map D.str=L at h0;generalize vs.getD 0 undef=v0 at h0;cases h0 with
 | nil=>exact none (by simpa using hL)
 | empty hm=>exact none (by simpa using hL)
 | @slice z L b off cap sz hAb hc hm hz hzz hsz us hcells hr =>
  have hsz1:sz=1:=by simpa[D.cells] using hzz.symm
  subst hsz1
  have key:∀(j:Nat) x,(l.map fun x=>(⟨x.toArray⟩:ByteArray))[j]?=some x->w.cell? ⟨b,off+j,Option.none⟩=some (.string x):=by
   intro j x hj;rw[List.getElem?_map,Option.map_eq_some_iff] at hj;obtain⟨y,hy,rfl⟩:=hj
   have hcj:cellAt L 1 j=some (.str y):=by
    unfold cellAt;rw[Nat.div_one,Nat.mod_one,<-hL,List.getElem?_map,hy];rfl
   rw[hcells j _ hcj];exact congrArg some (Gh (hr j _ hcj)).1
  have hmap:(l.map fun x=>(⟨x.toArray⟩:ByteArray)).map (·.data.toList)=l:=by rw[List.map_map];simp[Function.comp_def]
  have:=Go.Proofs.Tryz.strings_Join b off cap (l.map fun x=>⟨x.toArray⟩) ⟨sep.toArray⟩ w key (hA b hAb) (by simpa using hn) (by rw[List.length_map];rw[<-hL,List.length_map] at hc;exact hc) (by rw[hmap];simpa using hlen);rw[hmap,List.length_map] at this;rw[show L.length=l.length by rw[<-hL,List.length_map]];refine this.mono ?_;rintro e w' ⟨rfl,hb⟩;refine⟨_,rfl,aj.str ?_,hb⟩;simp only[maxLen];omega
end Go.D3
namespace Go.D3
open Go
def CT(b:UInt8):List (List UInt8)->List (List UInt8)
 | x::l=>(b::x)::l
 | []=>[[b]]
def df(p:List UInt8):Nat->List UInt8->List (List UInt8)
 | _,[]=>[[]]
 | k+1,_::r=>df p k r
 | 0,b::r=>if p.isPrefixOf (b::r)=true then[]::df p (p.length-1) r else CT b (df p 0 r)
theorem Ve{p:List UInt8}{k:Nat}:df p k []=[[]]:=by cases k<;>rfl
theorem JC{p:List UInt8}:∀{k:Nat}{s:List UInt8},k<=s.length->df p k s=df p 0 (s.drop k)
 | 0,_,_=>rfl
 | k+1,[],h=>by simp at h
 | k+1,_::r,h=>by rw[df,List.drop_succ_cons];exact JC (by simpa using h)
theorem RZ{p s:List UInt8}(h:p.isPrefixOf s=true):p.length<=s.length:=(List.isPrefixOf_iff_prefix.1 h).length_le
theorem Vd{p s:List UInt8}(hp:p≠[])(h:p.isPrefixOf s=true):df p 0 s=[]::df p 0 (s.drop p.length):=by
 have hl:=RZ h;cases s with
 | nil=>cases p with
  | nil=>exact absurd rfl hp
  | cons c q=>simp at hl
 | cons b r =>
  cases p with
  | nil=>exact absurd rfl hp
  | cons c q =>
   rw[df,if_pos h,JC (by simpa using hl)];simp
theorem JB{p r:List UInt8}{b:UInt8}(h:p.isPrefixOf (b::r)=false):df p 0 (b::r)=CT b (df p 0 r):=by
 rw[df,if_neg (by rw[h];simp)]
theorem zw{p:List UInt8}(hp:p≠[]){r:List UInt8}:∀{a:List UInt8},(∀i,i<a.length->p.isPrefixOf ((a++p++r).drop i)=false)->df p 0 (a++p++r)=a::df p 0 r
 | [],_=>by
  rw[List.nil_append,Vd hp (List.isPrefixOf_iff_prefix.2 (List.prefix_append _ _)),List.drop_left]
 | b::a,h=>by
  have h0:=h 0 (by simp);have:=zw hp (r:=r) (a:=a) fun i hi=>by have:=h (i+1) (by simp;omega);simpa using this
  rw[List.cons_append,List.cons_append,JB (by simpa using h0),this];rfl
theorem zx{p:List UInt8}:∀{a:List UInt8},(∀i,i<a.length->p.isPrefixOf (a.drop i)=false)->df p 0 a=[a]
 | [],_=>Ve
 | b::a,h=>by
  have h0:=h 0 (by simp);have:=zx (p:=p) (a:=a) fun i hi=>by have:=h (i+1) (by simp;omega);simpa using this
  rw[JB (by simpa using h0),this];rfl
theorem ym{c:UInt8}{s:List UInt8}:[c].isPrefixOf s=(s.head? == some c):=by
 cases s<;>simp[List.isPrefixOf,Bool.beq_comm]
theorem Va{c:UInt8}{a r:List UInt8}(h:c ∉ a):df [c] 0 (a++[c]++r)=a::df [c] 0 r:=by
 refine zw (by simp) fun i hi=>?_
 rw[ym,List.append_assoc,List.drop_append_of_le_length (by omega),List.drop_eq_getElem_cons hi];simp only[List.cons_append,List.head?_cons];rw[Bool.eq_false_iff];intro hh;simp only[beq_iff_eq,Option.some.injEq] at hh;exact h (hh▸List.getElem_mem hi)
theorem Vb{c:UInt8}{a:List UInt8}(h:c ∉ a):df [c] 0 a=[a]:=by
 refine zx fun i hi=>?_
 rw[ym,List.drop_eq_getElem_cons hi,List.head?_cons,Bool.eq_false_iff];intro hh;simp only[beq_iff_eq,Option.some.injEq] at hh;exact h (hh▸List.getElem_mem hi)
theorem Jz{x c y:UInt8}{a r:List UInt8}(hx:x≠c)(h:c ∉ a):df [x,c,y] 0 (a++[x,c,y]++r)=a::df [x,c,y] 0 r:=by
 refine zw (by simp) fun i hi=>?_
 rw[Bool.eq_false_iff];intro hh;obtain⟨t,ht⟩:=List.isPrefixOf_iff_prefix.1 hh;have h1:((a++[x,c,y]++r).drop i)[1]?=some c:=by rw[<-ht];rfl
 rw[List.getElem?_drop,List.append_assoc] at h1;by_cases hl:i+1<a.length
 ·rw[List.getElem?_append_left hl,List.getElem?_eq_getElem hl] at h1
  exact h (by injection h1 with h1;rw[<-h1];exact List.getElem_mem _)
 ·rw[List.getElem?_append_right (by omega),show i+1-a.length=0 by omega] at h1
  exact hx (by simpa using h1)
theorem Vc{x c y:UInt8}{a:List UInt8}(h:c ∉ a):df [x,c,y] 0 a=[a]:=by
 refine zx fun i hi=>?_
 rw[Bool.eq_false_iff];intro hh;obtain⟨t,ht⟩:=List.isPrefixOf_iff_prefix.1 hh;have h1:(a.drop i)[1]?=some c:=by rw[<-ht];rfl
 rw[List.getElem?_drop] at h1;exact h (List.mem_of_getElem? h1)
theorem rj{x y sep:List UInt8}{l:List (List UInt8)}:Lib.join (x::y::l) sep=x++sep++Lib.join (y::l) sep:=by
 rw[Lib.join_cons,Lib.join_cons];unfold Lib.joinTail;simp
theorem JA{c:UInt8}:∀{l:List (List UInt8)},l≠[]->(∀x∈l,c ∉ x)->df [c] 0 (Lib.join l [c])=l
 | [],h,_=>absurd rfl h
 | [x],_,h=>by rw[Lib.join_one];exact Vb (h x (by simp))
 | x::y::l,_,h=>by
  rw[rj,Va (h x (by simp)),JA (by simp) fun z hz=>h z (List.mem_cons_of_mem _ hz)]
end Go.D3
namespace Go.D3
open Go
set_option maxHeartbeats 4000000
set_option maxRecDepth 100000
attribute [go_sem] bytesOf.eq_1 bytesOf.eq_2
theorem LS(n:Nat)(h:n<18446744073709551616):(Lib.decDigits n).length<=20:=by rw[Lib.decDigits_length];exact Lib.nDigits_le20 n h
theorem LR{n:Nat}(h:¬n<10):Lib.decDigits n=Lib.decDigits (n / 10)++[UInt8.ofNat (48+n % 10)]:=by rw[Lib.decDigits,dif_neg h]
end Go.D3
namespace Go.D3
open Go
set_option maxHeartbeats 4000000
set_option maxRecDepth 100000
end Go.D3
