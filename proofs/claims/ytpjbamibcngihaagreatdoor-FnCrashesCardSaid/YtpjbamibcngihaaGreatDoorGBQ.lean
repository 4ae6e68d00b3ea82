/- The data behind all transactions: nothing that was there changes (walked). -/
import Derived.Test.YtpjbamibcngihaaGreatDoorGBP
import Derived.Test.YtpjbamibcngihaaGreatDoorGAY
import Derived.Test.YtpjbamibcngihaaGreatDoorGAW
import Derived.RegionTactic
import Derived.BigRegion
import Derived.Below
import Derived.Laws.Rows
namespace Go.D3
open Go
set_option maxHeartbeats 4000000
set_option maxRecDepth 100000
def Lf(rc:D)(gs:List D):Prop:=gs=[]/\∃t:List UInt8,t.length<=6020/\rc=.str t
def Bg:List Nat:=[0,2]
def Jf:Sl:=ak Go.Proofs.Tryz.types Go.Proofs.Tryz.f21 Bg [(0,26),(0,27),(1,26)]
theorem Rn:aF Go.Proofs.Tryz.prog Go.Proofs.Tryz.f21 Bg Jf 1=true:=by decide +kernel
theorem UN{c:List Int}(hc:fq c):bM Go.Proofs.Tryz.prog 21 [ae (D.int .u8) 0 c] [] Lf:=by
 refine dN .tree Go.Proofs.Tryz.func21 Rn ?_;unfold Jf ak Bg;simp only[go_sem];refine bf [] false (HS c hc) ?_;rintro _ _ ⟨rfl,h,rfl⟩;refine⟨(by repeat(first | exact trivial | refine⟨(fun h=>by cases h),?_⟩)),(fun h=>by cases h),?_⟩;simp only[go_sem];refine bf [1001] false (H4 hc (Nat.zero_le _)) ?_;rintro _ _ ⟨a,h,t,ha,ht,rfl,rfl⟩;refine⟨(by repeat(first | exact trivial | refine⟨(fun h=>by cases h),?_⟩)),(fun h=>by cases h),?_⟩;simp only[go_sem];exact⟨_,_,⟨rfl,t,ht,rfl⟩,rfl,rfl,trivial⟩
end Go.D3
namespace Go.D3
open Go Go.RowKit
set_option maxRecDepth 100000
theorem Qh(b sb so n c:Nat)(p0 p1:Option Addr)(n0 c0 n1 c1:Nat)(w:World)(hb:b<w.heap.size)(hsb:sb<w.heap.size)(hn : 0<n)(hn2:n<=4294966000)(h5:w.cell? ⟨b,5,none⟩=some (.slice (some ⟨sb,so,none⟩) n c))
  (h0:w.cell? ⟨sb,so+(n-1)*2,none⟩=some (.slice p0 n0 c0)) (h1:w.cell? ⟨sb,so+(n-1)*2+1,none⟩=some (.slice p1 n1 c1)) :
  Calls Go.Proofs.Tryz.prog 35 #[.pointer (some ⟨b,0,none⟩)] w fun e w'=>e=.returned (.agg #[.slice p0 n0 c0,.slice p1 n1 c1])/\Below w.heap.size w w':=by
 have a5:∀o,(w.alloc o).cell? ⟨b,5,none⟩=some (.slice (some ⟨sb,so,none⟩) n c):=fun o=>by rw[World.cell?_alloc_past _ _ _ hb];exact h5
 have a0:∀o,(w.alloc o).cell? ⟨sb,so+(n-1)*2,none⟩=some (.slice p0 n0 c0):=fun o=>by rw[World.cell?_alloc_past _ _ _ hsb];exact h0
 have a1:∀o,(w.alloc o).cell? ⟨sb,so+(n-1)*2+1,none⟩=some (.slice p1 n1 c1):=fun o=>by rw[World.cell?_alloc_past _ _ _ hsb];exact h1
 have s0:(w.alloc (.cells #[.slice none 0 0,.slice none 0 0] 77)).cell? ⟨w.heap.size,0,none⟩=some (.slice none 0 0):=by rw[World.cell?_alloc_at _ _ _ _ rfl];rfl
 have s1:(w.alloc (.cells #[.slice none 0 0,.slice none 0 0] 77)).cell? ⟨w.heap.size,1,none⟩=some (.slice none 0 0):=by rw[World.cell?_alloc_at _ _ _ _ rfl];rfl
 have f0:(w.alloc (.cells #[.slice none 0 0,.slice none 0 0] 77)).frozen? ⟨w.heap.size,0,none⟩=false:=by rw[World.frozen?_alloc_at _ _ _ _ rfl]
 have f1:(w.alloc (.cells #[.slice none 0 0,.slice none 0 0] 77)).frozen? ⟨w.heap.size,1,none⟩=false:=by rw[World.frozen?_alloc_at _ _ _ _ rfl]
 go_enter Go.Proofs.Tryz.func35,Go.Proofs.Tryz.ntmps35
 go_wp2
 go_region
 go_wp2
 have hr:((w.alloc (.cells #[.slice p0 n0 c0,.slice p1 n1 c1] 77)).drew).heap[w.heap.size]?=some (.cells #[.slice p0 n0 c0,.slice p1 n1 c1] 77 (0,0)):=by
  show(w.heap.push _)[w.heap.size]?=_;rw[Array.getElem?_push,if_pos rfl]
 refine bodyPost_ret (results_cell_row (fn:=Go.Proofs.Tryz.f35) (p:=2) (ty:=77) rfl _ _ w.heap.size 77 #[.slice p0 n0 c0,.slice p1 n1 c1] (0,0) _ rfl hr Go.Proofs.Tryz.underlying77 rfl (by kernel_rfl)) rfl ⟨rfl,rfl,rfl,rfl,?_,fun j hj=>?_⟩
 ·show w.heap.size<=(w.heap.push _).size
  rw[Array.size_push];omega
 ·show(w.heap.push _)[j]?=_
  rw[Array.getElem?_push,if_neg (by omega)]
theorem S3{w:World}{A:Nat->Prop}{v:Value}{l:List D}{F:Nat->Prop}(h:an w A v (.ptr l) F):∃(b:Nat)(cs:Array Value)(e:TypeId)(Fs:Nat->Nat->Prop),v=.pointer (some ⟨b,0,none⟩)/\w.heap[b]?=some (.cells cs e (0,0))/\cs.size=l.length/\(∀j x,l[j]?=some x->an w A (cs.getD j undef) x (Fs j))/\F b:=by
 cases h with
 | ptr Fs hb hs hr hF _ _=>exact⟨_,_,_,Fs,rfl,hb,hs,hr,hF⟩
theorem S4{w:World}{A:Nat->Prop}{v:Value}{z:D}{L:List D}{F:Nat->Prop}(h:an w A v (.slice z L) F)(hL:L≠[]):∃(b off cap sz:Nat)(cs:Array Value)(e:TypeId)(fz:Nat×Nat)(Fs:Nat->Nat->Prop),v=.slice (some ⟨b,off,none⟩) L.length cap/\w.heap[b]?=some (.cells cs e fz)/\off+cap*sz<=cs.size/\L.length<=cap/\z.cells.length=sz/\∀j x,cellAt L sz j=some x->an w A (cs.getD (off+j) undef) x (Fs j):=by
 cases h with
 | nil=>exact absurd rfl hL
 | slice Fs hb hroom hc hm hz hzz hsz hr hF hfs hdis=>exact⟨_,_,_,_,_,_,_,Fs,rfl,hb,hroom.1,hc,hzz,hr⟩
theorem GC{w:World}{A:Nat->Prop}{v:Value}{z:D}{L:List D}{F:Nat->Prop}(h:an w A v (.slice z L) F):∃p n c,v=.slice p n c:=by
 cases h with
 | nil=>exact⟨_,_,_,rfl⟩
 | slice Fs hb hroom hc hm hz hzz hsz hr hF hfs hdis=>exact⟨_,_,_,rfl⟩
theorem HP(s:aa)(dt:List af)(tx:List (List ah))(g:Nat)(h : 0<dt.length)(hl:dt.length<=4294966000):vT Go.Proofs.Tryz.prog 35 [.aw 0 [(0,0)]] [.o (.ptr (fy s dt tx g))] (.agg [.sub 0 [(0,5),(dt.length-1,0)],.sub 0 [(0,5),(dt.length-1,1)]]):=by
 refine⟨by decide +kernel,?_⟩;intro w A vs gv Fs hG hA hvs hpre hgpre hgemp hFd hFs;obtain⟨b,cs,e,Fs1,hg0,hbk,hsz,hcs,hFb⟩:=S3 (show an w A (gv 0) (.ptr (fy s dt tx g)) (Fs 0) from hgpre 0);have hsz:cs.size=8:=hsz;have hbl:b<w.heap.size:=(hFs 0 b hFb).1
 have hv0:vs=#[.pointer (some ⟨b,0,none⟩)]:=by
  obtain⟨q1,a,q2,q3⟩:=fR (hpre 0 _ rfl)
  have hv0:vs.getD 0 undef=.pointer (some ⟨b,0,none⟩):=by
   have:aH w (gv 0) (nth [D.o (.ptr (fy s dt tx g))] 0) [(0,0)]=some ⟨b,0,none⟩:=by
    rw[hg0];rfl
   rw[this] at q2;injection q2 with q2
   rw[q3,<-q2]
  match vs,hvs with
  | ⟨[x]⟩,_=>rw[<-hv0];rfl
 have hc5:w.cell? ⟨b,5,none⟩=some (cs.getD 5 undef):=ee hbk (by omega)
 have hne:dt.map af.d≠[]:=by
  intro hh;have:=congrArg List.length hh;rw[List.length_map] at this;exact absurd this (by show dt.length≠0;omega)
 obtain⟨sb,so,cap,sz,cs2,e2,fz,Fs2,hs5,hsbk,hroom,hcap,hz,hel⟩:=S4 (show an w A (cs.getD 5 undef) (.slice (af.d af.zero) (dt.map af.d)) (Fs1 5) from hcs 5 _ rfl) hne;obtain rfl:sz=2:=hz.symm;rw[List.length_map] at hs5 hcap;have hsbl:sb<w.heap.size:=(Array.getElem?_eq_some_iff.1 hsbk).1;have hlt:dt.length-1<dt.length:=by omega
 have hge:(dt.map af.d)[dt.length-1]?=some (af.d dt[dt.length-1]):=by rw[List.getElem?_map,List.getElem?_eq_getElem hlt];rfl
 have hel0:=hel ((dt.length-1)*2) (ints dt[dt.length-1].sz) (by
  unfold cellAt
  rw[show(dt.length-1)*2 / 2=dt.length-1 by omega,show(dt.length-1)*2 % 2=0 by omega,hge];rfl)
 have hel1:=hel ((dt.length-1)*2+1) (aI dt[dt.length-1].mp) (by
  unfold cellAt
  rw[show((dt.length-1)*2+1) / 2=dt.length-1 by omega,show((dt.length-1)*2+1) % 2=1 by omega,hge];rfl)
 obtain⟨p0,n0,c0,e0⟩:=GC hel0;obtain⟨p1,n1,c1,e1⟩:=GC hel1;have k0:w.cell? ⟨sb,so+(dt.length-1)*2,none⟩=some (.slice p0 n0 c0):=by rw[<-e0];exact ee hsbk (by omega)
 have k1:w.cell? ⟨sb,so+(dt.length-1)*2+1,none⟩=some (.slice p1 n1 c1):=by rw[<-e1];exact ee hsbk (by omega)
 rw[hs5] at hc5;rw[hv0];refine(Qh b sb so dt.length cap p0 p1 n0 c0 n1 c1 w hbl hsbl h hl hc5 k0 k1).mono ?_;rintro e w' ⟨rfl,hb⟩
 have ref:∀(off:Nat)(p:Option Addr)(n c:Nat),off<2->w.cell? ⟨sb,so+(dt.length-1)*2+off,none⟩=some (.slice p n c)->aj w (nth [D.o (.ptr (fy s dt tx g))]) gv (.slice p n c) (.sub 0 [(0,5),(dt.length-1,off)]):=fun off p n c ho hc=>by
  refine⟨⟨⟨⟨rfl,by show 5<8;decide⟩,⟨⟨by show dt.length-1<(dt.map af.d).length;rw[List.length_map];exact hlt,by show off<2;exact ho⟩,trivial⟩⟩,fun hh=>by cases hh⟩,?_,.inl ⟨p,n,c,rfl⟩⟩;rw[hg0];show(cF _ _ _ 0 5).bind _=_;show((World.cell? w ⟨b,0+5,none⟩).bind _)=_;rw[Nat.zero_add,hc5];show((World.cell? w ⟨sb,so+((dt.length-1)*2+off),none⟩).bind some)=_;rw[<-Nat.add_assoc,hc];rfl
 refine⟨_,rfl,hb.size,fun c hc=>hb.block c hc,?_,hb.os,hb.tape,hb.output⟩;refine .agg rfl fun j x hj=>?_
 match j with
 | 0=>cases hj;exact .ref (ref 0 _ _ _ (by decide) k0)
 | 1=>cases hj;exact .ref (ref 1 _ _ _ (by decide) k1)
 | _+2=>cases hj
end Go.D3
