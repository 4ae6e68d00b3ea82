/- PLAIN LAWS: a table that is filled in row by row. -/
import Derived.Test.YtaknpcdnmecblaaHG
namespace Go.D3
open Go
def gA(fr to:List Int)(cf:Nat->Nat->Int)(f n N:Nat):List Int:=(List.range N).map fun g=>if g<n then(if to.getD f 0=fr.getD g 0 then cf f g else -1) else 0
def fw(fr to:List Int)(cf:Nat->Nat->Int)(f N:Nat):List (List Int):=(List.range N).map fun i=>if i<f then gA fr to cf i N N else[]
theorem DE{fr to:List Int}{cf:Nat->Nat->Int}{f n N:Nat}:(gA fr to cf f n N).length=N:=by simp[gA]
theorem xL{fr to:List Int}{cf:Nat->Nat->Int}{f N:Nat}:(fw fr to cf f N).length=N:=by simp[fw]
theorem Nz{fr to:List Int}{cf:Nat->Nat->Int}{f N:Nat}:gA fr to cf f 0 N=List.replicate N 0:=by
 refine List.ext_getElem (by simp[gA]) fun i h1 h2=>?_
 simp[gA]
theorem Ox{fr to:List Int}{cf:Nat->Nat->Int}{N:Nat}:fw fr to cf 0 N=List.replicate N []:=by
 refine List.ext_getElem (by simp[fw]) fun i h1 h2=>?_
 simp[fw]
theorem DF{fr to:List Int}{cf:Nat->Nat->Int}{f n N:Nat}{v:Int}(hv:v=if to.getD f 0=fr.getD n 0 then cf f n else -1):(gA fr to cf f n N).set n v=gA fr to cf f (n+1) N:=by
 refine List.ext_getElem (by simp[gA]) fun i h1 h2=>?_
 rw[List.getElem_set];simp only[gA,List.getElem_map,List.getElem_range];by_cases h:n=i
 ·subst h;rw[if_pos rfl,if_pos (by omega),hv]
 ·rw[if_neg h]
  by_cases h3:i<n
  ·rw[if_pos h3,if_pos (show i<n+1 by omega)]
  ·rw[if_neg h3,if_neg (show ¬i<n+1 by omega)]
theorem Ow{fr to:List Int}{cf:Nat->Nat->Int}{f N:Nat}:(fw fr to cf f N).set f (gA fr to cf f N N)=fw fr to cf (f+1) N:=by
 refine List.ext_getElem (by simp[fw]) fun i h1 h2=>?_
 rw[List.getElem_set];simp only[fw,List.getElem_map,List.getElem_range];by_cases h:f=i
 ·subst h;rw[if_pos rfl,if_pos (by omega)]
 ·rw[if_neg h]
  by_cases h3:i<f
  ·rw[if_pos h3,if_pos (by omega)]
  ·rw[if_neg h3,if_neg (by omega)]
theorem NV{α:Type}{l:List α}{i:Nat}{x d:α}(h:i<l.length):(l.set i x).getD i d=x:=by rw[List.getD_eq_getElem?_getD,List.getElem?_set_self h];rfl
end Go.D3
