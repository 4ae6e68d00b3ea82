/- PLAIN LAWS: keys, and maps from keys to numbers. -/
import Derived.Test.YtaknpcdnmecblaaGreatDoorGAB
import Derived.Test.YtaknpcdnmecblaaGreatDoorGAC
namespace Go.D3
open Go
def kV(p:U):List UInt8:=tB [[p.st],p.ed]
theorem WE{p q:U}(hp:oU (p.st::p.ed))(W:oU (q.st::q.ed))(h:kV p=kV q):p=q:=by
 unfold kV tB zB at h;simp only[List.flatMap_cons,List.flatMap_nil,List.map_cons,List.map_nil,List.cons_append,List.nil_append,List.append_nil,List.cons.injEq,true_and] at h;have S:=E4 (hp _ List.mem_cons_self) (W _ List.mem_cons_self) h.1;have V:=HB (fun z I=>hp z (List.mem_cons_of_mem _ I)) (fun z I=>W z (List.mem_cons_of_mem _ I)) (List.append_inj_left' h.2 rfl);cases p;cases q;simp only at S V;rw[S,V]
theorem uI{s:aa}(S:iM s){p:U}(hp:s.sp p):oU (p.st::p.ed):=by
 obtain⟨y,W⟩:=hp;obtain⟨h1,Y,V⟩:=bN.1 W;have Z:=S.n8;have hf:=S.f8;intro x I;rcases List.mem_cons.1 I with rfl | I
 ·omega
 ·obtain⟨i,hi,rfl⟩:=List.getElem_of_mem I
  have:=(ry V).2 i hi;rw[aM hi] at this;omega
def qV(list:List U)(n:Nat):List (List UInt8×Int):=nq (fun j=>kV (list.getD j U.zero)) n
theorem EU{s:aa}(S:iM s){list:List U}(V:∀p∈list,s.sp p)(W:list.Nodup){i j:Nat}(hi:i<list.length)(I:j<list.length)(h:kV (list.getD i U.zero)=kV (list.getD j U.zero)):i=j :=
 getD_inj W hi I (WE (uI S (V _ (dj hi))) (uI S (V _ (dj I))) h)
theorem OQ{s:aa}(S:iM s){list:List U}(V:∀p∈list,s.sp p)(I:list.Nodup){i:Nat}(hi:i<list.length):gW (qV list i) (kV (list.getD i U.zero)) (i:Int)=qV list (i+1) :=
 WM (ks:=fun j=>kV (list.getD j U.zero)) fun j W e=>by have:=EU S V I (show j<list.length by omega) hi e;omega
theorem ET{s:aa}(V:iM s){list:List U}(W:∀p∈list,s.sp p)(S:list.Nodup){p:U}(hp:p∈list):∃i:Nat,i<list.length/\list.getD i U.zero=p/\jV (qV list list.length) (kV p) 0=i:=by
 obtain⟨i,hi,rfl⟩:=ff (d:=U.zero) hp;exact⟨i,hi,rfl,WK (ks:=fun j=>kV (list.getD j U.zero)) hi (fun j I e=>EU V W S I hi e) 0⟩
end Go.D3
