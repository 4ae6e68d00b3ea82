/- CONTRACTS: what the reference answers of journals. -/
import Derived.Test.YtpjbamibcngihaaGreatDoorGAV
namespace Go.D3
open Go
set_option maxHeartbeats 4000000
set_option maxRecDepth 100000
theorem Rd.rN{w:World}{A:Nat->Prop}{v:Value}{d:D}(h:Rd w A v (.vw d)):Rd w A v d:=by
 cases h with
 | vw h=>exact h
theorem Rd.V3{w:World}{A:Nat->Prop}{v:Value}{L:List af}(h:Rd w A v (ae dc none (L.map some))):Rd w A v (ae af.d af.zero L):=by
 have hcell:∀(e:af)(k:Nat)(x:D),(af.d e).cells[k]?=some x->(dc (some e)).cells[k]?=some (.vw x):=fun e k x hx=>by
  match k,hx with
  | 0,hx=>cases hx;rfl
  | 1,hx=>cases hx;rfl
 have key:∀{sz j:Nat}{x:D},cellAt (L.map af.d) sz j=some x->cellAt ((L.map some).map dc) sz j=some (.vw x):=fun {sz j x} hx=>by
  unfold cellAt at hx|-
  rw[List.getElem?_map] at hx;rw[List.map_map,List.getElem?_map];cases hq:L[j / sz]? with
  | none=>rw[hq] at hx;cases hx
  | some r =>
   rw[hq] at hx;simp only[Option.map_some,Option.bind_some,Function.comp] at hx|-
   exact hcell r _ x hx
 generalize hd:ae dc none (L.map some)=d at h;cases h<;>simp only[ae,D.slice.injEq,reduceCtorEq] at hd
 case nil=>obtain⟨_,h2⟩:=hd;cases L with | nil=>exact .nil | cons a b=>simp at h2
 case empty hm=>obtain⟨_,h2⟩:=hd;cases L with | nil=>exact .empty hm | cons a b=>simp at h2
 case slice hA hc hm hz hzz hsz vs hcells hr =>
  obtain⟨rfl,rfl⟩:=hd;rw[List.length_map,List.length_map] at hc|-
  rw[show L.length=(L.map af.d).length by rw[List.length_map]]
  exact .slice (z:=af.d af.zero) hA (by rw[List.length_map];exact hc) hm hz hzz (fun x hx=>by
   obtain⟨r,hr',rfl⟩:=List.mem_map.1 hx
   exact hsz (dc (some r)) (List.mem_map.2 ⟨some r,List.mem_map.2 ⟨r,hr',rfl⟩,rfl⟩)) vs (fun j x hx=>hcells j _ (key hx)) fun j x hx=>by
    exact(hr j _ (key hx)).rN
def Hs.pl(s:aa)(H:Hs):D:=bT.d ⟨s,H.dt,H.tx,H.gd⟩
theorem Rd.hs{w:World}{A:Nat->Prop}{v:Value}{s:aa}{H:Hs}(h:Rd w A v (Hs.d s H)):Rd w A v (Hs.pl s H):=by
 unfold Hs.d at h;generalize hd:([.int .i64 s.nd,.vw (ints s.fr),.vw (ints s.to),.vw (ae U.d U.zero s.lf),.vw (ae U.d U.zero s.rt),ae dc none (H.dt.map some),ae (ae ah.d ah.zero) [] H.tx,.int .i64 H.gd]:List D)=l at h;cases h with
 | agg hs hr =>
  subst hd;refine .agg hs fun j x hx=>?_
  match j,hx with
  | 0,hx=>cases hx;exact hr 0 _ rfl
  | 1,hx=>cases hx;exact(hr 1 _ rfl).rN
  | 2,hx=>cases hx;exact(hr 2 _ rfl).rN
  | 3,hx=>cases hx;exact(hr 3 _ rfl).rN
  | 4,hx=>cases hx;exact(hr 4 _ rfl).rN
  | 5,hx=>cases hx;exact(hr 5 _ rfl).V3
  | 6,hx=>cases hx;exact hr 6 _ rfl
  | 7,hx=>cases hx;exact hr 7 _ rfl
def lu:Option (aa×Hs)->D
 | some p=>.au [Hs.pl p.1 p.2,.bool true]
 | none=>.au [bT.d bT.zero,.bool false]
theorem Rd.Wk{w:World}{A:Nat->Prop}{v:Value}{o:Option (aa×Hs)}(h:Rd w A v (Bg o)):Rd w A v (lu o):=by
 cases o with
 | none=>exact h
 | some p =>
  unfold Bg at h;generalize hd:([Hs.d p.1 p.2,.bool true]:List D)=l at h;cases h with
  | au hs hr =>
   subst hd;refine .au hs fun j x hx=>?_
   match j,hx with
   | 0,hx=>cases hx;exact(hr 0 _ rfl).hs
   | 1,hx=>cases hx;exact hr 1 _ rfl
theorem aC.Vs{P:Program}{f:FuncId}{xs:List D}{res res':D}(hb:hU P f=true)(hx:∀x∈xs,x.refs eL)(hr:res'.c6=true)(hR:∀(w:World)(A:Nat->Prop)(v:Value),Rd w A v res->Rd w A v res')(h:aC P f (xs.map .v) res):gy P f xs [] res' []:=by
 refine⟨hb,fun w A vs gv Fs h0 h1 h2 h3 h4 h5 h6 h7=>(h w A vs (fun _ _=>False) h0 h1 (by simpa using h2) (fun j a ha=>?_) (fun _ _ _ _ h=>h.elim) (fun _ _ h=>h.elim)).mono ?_⟩
 ·rw[List.getElem?_map,Option.map_eq_some_iff] at ha
  obtain⟨d,hd,rfl⟩:=ha;exact⟨tJ (h3 j d hd) (hx d (List.mem_of_getElem? hd)),fun _ h=>h⟩
 ·rintro e w' ⟨v,F,Fs',he,hsz,hown,_,hF,_,_,hsame,hos⟩
  refine⟨_,_,v,fun _=>False,gv,fun _ _=>False,⟨rfl,rfl⟩,he,hsz,(oO hr).2 (.rd (hR _ _ _ (zS hown fun b hb=>⟨(hF b hb).1,(hF b hb).2.1.elim id fun⟨_,hj⟩=>hj.elim⟩))),fun _ _ h=>h,fun _=>Pl.dead,fun _ _ _ h=>h,fun _ _=>rfl,fun _ h=>h.elim,fun _ _ h=>h.elim,fun _ _ _ _ h=>h.elim,fun b hb _=>hsame b hb fun _ h=>h,hos⟩
theorem tf(t:List UInt8)(ht:t.length<=5000000):gy Go.Proofs.Tryz.prog 28 [.str t,.int .i64 1000000] [] (lu (bO t)) [] :=
 aC.Vs (xs:=[.str t,.int .i64 1000000]) (by decide +kernel) (fun x hx=>by simp at hx;rcases hx with rfl | rfl<;>trivial) (by cases bO t<;>rfl) (fun _ _ _ h=>h.Wk) (Lz t ht)
def sa:List Nat:=[0,2,1]
def xu:Sl:=ak Go.Proofs.Tryz.types Go.Proofs.Tryz.f32 sa []
theorem CY:aI Go.Proofs.Tryz.prog Go.Proofs.Tryz.f32 sa xu 1=true:=by decide +kernel
theorem wG(x:bT)(h : 0<x.dt.length)(hl:x.dt.length<=4294966000):gy Go.Proofs.Tryz.prog 32 [bT.d x] [] (af.d (x.dt.getD (x.dt.length-1) af.zero)) []:=by
 refine oz .refs Go.Proofs.Tryz.func32 CY ?_;unfold xu ak sa;simp only[go_sem];have hw:IntKind.i64.wrap ((x.dt.length:Int)-1)=((x.dt.length-1:Nat):Int):=by rw[wrap_small (by omega) (by omega)];omega
 rw[hw];exact⟨⟨by omega,by omega⟩,rfl⟩
end Go.D3
namespace Go.D3
open Go
set_option maxRecDepth 100000
def bT.of(s:aa)(H:Hs):bT:=⟨s,H.dt,H.tx,H.gd⟩
theorem tI{s:aa}{H:Hs}:(bT.of s H).dt.getD ((bT.of s H).dt.length-1) af.zero=H.last:=rfl
def JO:Option (aa×Hs)->D
 | some p=>.au [ints p.2.last.sz,aK p.2.last.mp,.int .i64 p.2.tx.length,.int .i64 p.2.gd,.int .i64 0]
 | none=>.au [ints [],aK [],.int .i64 0,.int .i64 0,.int .i64 6]
end Go.D3
