/- CONTRACTS: schemas that are read, the reference's side: paths, ParseSchema. -/
import Derived.Test.YtpjbamibcngihaaGreatDoorGAM
namespace Go.D3
open Go
set_option maxHeartbeats 4000000
set_option maxRecDepth 100000
def Cz(t:List UInt8)(rc:D)(gs:List D):Prop:=gs=[]/\∃(p:U)(e:Bool),rc=.o (.au [U.d p,.bool e])/\∀q,dC q->t=q.aL->p=q/\e=true
theorem NJ{n:Int}(h : 0<=n)(h1:n<10):Lib.itoa n=[UInt8.ofNat (48+n.toNat)]:=by
 obtain⟨m,rfl⟩:∃m:Nat,n=m:=⟨n.toNat,by omega⟩;rw[Lib.itoa_nonneg,Lib.decDigits_one (by omega)];rfl
theorem W7{q:U}(h:dC q):q.aL=64::UInt8.ofNat (48+q.st.toNat)::q.ed.map fw:=by
 unfold U.aL;rw[NJ h.st.1 (by have:=h.st;omega)];rfl
def BY:List Nat:=[0,2,3,4,5]
def JW:Sl:=ak Go.Proofs.Tryz.types Go.Proofs.Tryz.f110 BY []
theorem Sa:aF Go.Proofs.Tryz.prog Go.Proofs.Tryz.f110 BY JW 1=true:=by decide +kernel
theorem HY(t:List UInt8)(ht:t.length<=4294966000):bM Go.Proofs.Tryz.prog 110 [.str t] [] (Cz t):=by
 have no:(∀q,dC q->t≠q.aL)->Cz t (.o (.au [U.d U.zero,.bool false])) []:=fun h=>⟨rfl,U.zero,false,rfl,fun q h1 h2=>absurd h2 (h q h1)⟩
 have hq:∀q,dC q->t=q.aL->t.length=q.ed.length+2/\t.getD 0 0=64/\((t.getD 1 0).toNat:Int)=48+q.st/\∀i,t.getD (i+2) 0=(q.ed.map fw).getD i 0:=fun q h1 h2=>by
  rw[h2,W7 h1];have:=h1.st;refine⟨by simp,rfl,?_,fun i=>by simp[List.getD_eq_getElem?_getD]⟩;show((UInt8.ofNat (48+q.st.toNat)).toNat:Int)=_;rw[UInt8.toNat_ofNat',Nat.mod_eq_of_lt (by omega)];omega
 refine dN .tree Go.Proofs.Tryz.func110 Sa ?_;unfold JW ak BY;simp only[go_sem];refine⟨fun h=>⟨h,by decide,by simp at h;omega⟩,(fun h=>by simpa using h),fun h=>⟨_,_,no (fun q h1 h2=>?_),rfl,rfl,trivial⟩,fun h=>?_⟩
 ·obtain⟨a1,a2,_⟩:=hq q h1 h2
  rw[a1,a2] at h;simp at h;omega
 ·simp only[Bool.or_eq_false_iff,decide_eq_false_iff_not] at h
  refine⟨by omega,?_⟩;have hb:=(t.getD 1 0).toNat_lt;rw[wrap_small (n:=((t.getD 1 0).toNat:Int)) (by omega) (by omega),wrap_small (by omega) (by omega)];refine aE [] (fun(p:Nat×List Int)=>[(3,.box [.int .i64 (((t.getD 1 0).toNat:Int)-48),.o (ints p.2)]),(4,.int .i64 (p.1+2:Nat))]) (fun p=>p.1+2<=t.length/\p.2.length=p.1/\p.1<=6/\∀q,dC q->t=q.aL->p.2=q.ed.take p.1) (fun p=>t.length-p.1) (0,[]) (by simp only[go_sem];rfl) ⟨by show 0+2<=_;omega,rfl,by decide,fun _ _ _=>rfl⟩ rfl ?_;rintro⟨k,ed⟩ ⟨hk,hl,h6,he⟩;simp only at hk hl h6 he;simp only[go_sem];refine⟨fun h1=>⟨fun h2=>⟨_,_,no (fun q h3 h4=>?_),rfl,rfl,trivial⟩,fun h2=>av (iX ed (by omega)) rfl (.inl (bZ _)) ?_⟩,fun h1=>⟨_,_,⟨rfl,⟨((t.getD 1 0).toNat:Int)-48,ed⟩,true,rfl,fun q h3 h4=>⟨?_,rfl⟩⟩,rfl,rfl,trivial⟩⟩
  ·obtain⟨a1,_⟩:=hq q h3 h4
   have:=h3.len;omega
  ·simp only[go_sem]
   have hb2:=(t.getD (k+2) 0).toNat_lt;rw[wrap_small (n:=((t.getD (k+2) 0).toNat:Int)) (by omega) (by omega),wrap_small (n:=((t.getD (k+2) 0).toNat:Int)-97) (by omega) (by omega)];refine⟨h1,by omega,(k+1,ed++[((t.getD (k+2) 0).toNat:Int)-97]),⟨by show k+1+2<=_;omega,by simp[hl],by show k+1<=6;omega,fun q h3 h4=>?_⟩,by show t.length-(k+1)<_;omega,?_⟩
   ·obtain⟨a1,a2,a3,a4⟩:=hq q h3 h4
    have hlt:k<q.ed.length:=by omega
    have hr:=h3.ed k hlt;have hx:(t.getD (k+2) 0)=fw (q.ed.getD k 0):=by rw[a4,List.getD_eq_getElem?_getD,List.getElem?_map,List.getElem?_eq_getElem hlt,aS hlt];rfl
    show ed++_=q.ed.take (k+1);rw[cH hlt 0,he q h3 h4,hx,qN hr,Int.add_comm 97,Int.add_sub_cancel]
   ·rw[wrap_small (by omega) (by omega)];rfl
  ·obtain⟨a1,a2,a3,a4⟩:=hq q h3 h4
   have h5:=he q h3 h4;rw[List.take_of_length_le (by omega)] at h5;rw[h5,show((t.getD 1 0).toNat:Int)-48=q.st by omega]
end Go.D3
