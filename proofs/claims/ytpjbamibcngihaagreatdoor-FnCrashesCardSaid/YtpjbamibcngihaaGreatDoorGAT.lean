/- CONTRACTS: results that are only read; transactions, the reference's side. -/
import Derived.Test.YtpjbamibcngihaaGreatDoorGAS
namespace Go.D3
open Go
set_option maxHeartbeats 4000000
set_option maxRecDepth 100000
theorem yK{w w':World}{A:Nat->Prop}{v:Value}{d:D}{F:Nat->Prop}{S:Nat->Prop}(h:an w' (fun b=>A b\/(w.heap.size<=b/\b<w'.heap.size/\¬F b/\S b)) v d F)(hF:∀b,F b->b<w'.heap.size/\w.heap.size<=b) :
  Rd w' (fun b=>A b\/(w.heap.size<=b/\b<w'.heap.size/\¬False/\∀_:Nat,¬False)) v d :=
 h.rd (fun _ hb=>hb.imp id fun h=>⟨h.1,h.2.1,id,fun _=>id⟩) fun b hb=>.inr ⟨(hF b hb).2,(hF b hb).1,id,fun _=>id⟩
theorem bM.view{P:Program}{f:FuncId}{xs:List D}{Q:List D->Prop}(h:bM P f xs [] fun rc gs=>gs=[]/\∃l,rc=.o (.au l)/\Q l):bM P f xs [] fun rc gs=>gs=[]/\∃l,rc=.au l/\Q l:=by
 refine⟨h.1,fun w A vs gv Fs h0 h1 h2 h3 h4 h5 h6 h7=>(h.2 w A vs gv Fs h0 h1 h2 h3 h4 h5 h6 h7).mono ?_⟩;rintro e w' ⟨rc,gs',v,F,gv',Fs',⟨rfl,l,rfl,hQ⟩,he,hsz,hc,_,_,hemp,_,hF,_,_,hsame,hos⟩;refine⟨_,_,v,fun _=>False,gv,fun _ _=>False,⟨rfl,l,rfl,hQ⟩,he,hsz,.rd (yK hc fun b hb=>⟨(hF b hb).1,(hF b hb).2.1.elim id fun⟨j,hj⟩=>absurd hj (h5 j rfl b)⟩),fun _ _ h=>h,fun _=>Pl.dead,fun _ _ _ h=>h,fun _ _=>rfl,fun _ h=>h.elim,fun _ _ h=>h.elim,fun _ _ _ _ h=>h.elim,hsame,hos⟩
theorem aC.view{P:Program}{f:FuncId}{xs:List D}{res:D}(hb:ij P f=true)(hx:∀x∈xs,x.refs eP)(hr:res.c8=true)(h:aC P f (xs.map .v) res):fV P f xs [] res []:=by
 refine⟨hb,fun w A vs gv Fs h0 h1 h2 h3 h4 h5 h6 h7=>(h w A vs (fun _ _=>False) h0 h1 (by simpa using h2) (fun j a ha=>?_) (fun _ _ _ _ h=>h.elim) (fun _ _ h=>h.elim)).mono ?_⟩
 ·rw[List.getElem?_map,Option.map_eq_some_iff] at ha
  obtain⟨d,hd,rfl⟩:=ha;exact⟨sN (h3 j d hd) (hx d (List.mem_of_getElem? hd)),fun _ h=>h⟩
 ·rintro e w' ⟨v,F,Fs',he,hsz,hown,_,hF,_,_,hsame,hos⟩
  refine⟨_,_,v,fun _=>False,gv,fun _ _=>False,⟨rfl,rfl⟩,he,hsz,(pO hr).2 (.rd (yK hown fun b hb=>⟨(hF b hb).1,(hF b hb).2.1.elim id fun⟨_,hj⟩=>hj.elim⟩)),fun _ _ h=>h,fun _=>Pl.dead,fun _ _ _ h=>h,fun _ _=>rfl,fun _ h=>h.elim,fun _ _ h=>h.elim,fun _ _ _ _ h=>h.elim,fun b hb _=>hsame b hb fun _ h=>h,hos⟩
def dD:Option af->D
 | some d=>.agg [.vw (ints d.sz),.vw (aI d.mp)]
 | none=>.agg [ints [],aI []]
def jT(s:aa)(l:List ah):Option af->D
 | some d=>.o (.au [dD (some d),.bool (decide (l.length<=40)&&d.dP s)])
 | none=>.o (.au [dD none,.bool false])
def vC:List Nat:=[0,1,2,6,7,3,4,8,9,10]
def zE:Sl:=ak Go.Proofs.Tryz.types Go.Proofs.Tryz.f41 vC [(0,68),(11,4)]
theorem Gd:aF Go.Proofs.Tryz.prog Go.Proofs.Tryz.f41 vC zE 3=true:=by decide +kernel
theorem Vf(s:aa)(d:af)(l:List ah)(h:s.ok=true)(hd:br s d)(hl:l.length<=4294966000):fV Go.Proofs.Tryz.prog 41 [aa.d s,af.d d,.sub 0 []] [.o (ae ah.d ah.zero l)] (jT s l (af.all s d l)) [.o (ae ah.d ah.zero l)]:=by
 have hs:=eA (dM h).1;refine mN .tree Go.Proofs.Tryz.func41 Gd ?_;unfold zE ak vC;simp only[go_sem];refine aE [8,9] (fun(p:Nat×af)=>[(6,.box [ints p.2.sz,aI p.2.mp]),(7,.int .i64 p.1)]) (fun p=>p.1<=l.length/\af.all s p.2 (l.drop p.1)=af.all s d l/\br s p.2) (fun p=>l.length-p.1) (0,d) (by simp only[go_sem];rfl) ⟨Nat.zero_le _,rfl,hd⟩ rfl ?_;rintro⟨i,e⟩ ⟨hi,ha,he⟩;simp only at hi ha he;simp only[go_sem];have hV:=aC.view (xs:=[aa.d s,af.d e,ah.d (l.getD i ah.zero)]) (by decide +kernel) (fun x hx=>by simp at hx;rcases hx with rfl | rfl | rfl<;>simp only[aa.d,aa.cells,af.d,af.cells,ah.d,ah.cells,D.refs,bK,xW,and_self]) (by split<;>rfl) (H2 s e (l.getD i ah.zero) hs he);refine⟨fun h2=>⟨⟨⟨h2,h2,?_⟩,h2,h2,?_⟩,⟨h2,h2,?_⟩,h2,h2,?_⟩,fun h2=>?_⟩
 iterate 4
  ·rw[we h2] at ha
   refine en [] false hV ?_;have hstep:=fun hc=>he.app (c:=l.getD i ah.zero) hs hc
   cases hc:e.can s (l.getD i ah.zero) with
   | false =>
    rw[hc,if_neg (by simp)] at ha;rw[<-ha,if_neg (by simp)];simp only[jT,dD];simp only[go_sem]
    all_goals rfl
   | true =>
    rw[hc,if_pos rfl] at ha;rw[if_pos rfl];have:=hstep hc;generalize e.app s (l.getD i ah.zero)=e' at ha this;simp only[go_sem];exact⟨(i+1,e'),⟨h2,ha,this⟩,by show l.length-(i+1)<l.length-i;omega,by rw[wrap_small (by omega) (by omega)];rfl⟩
 rw[show i=l.length by omega,List.drop_length] at ha;rw[<-ha];have h40:decide ((l.length:Int)<=40)=decide (l.length<=40):=decide_eq_decide.2 (by omega);refine⟨bt (fun _=>u9 s e h he) rfl (fun h=>h) (.inl rfl) ?_,bt (fun _=>u9 s e h he) rfl (fun h=>h) (.inl rfl) ?_⟩
 all_goals(
  simp only[go_sem,jT,dD,af.all]
  rw[h40])
end Go.D3
