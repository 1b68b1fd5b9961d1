/- Facts of lists. Conditions: none. -/
import Derived.Test.YtnblieajjclipaaGreatGCT
set_option linter.all false
namespace Go.Proofs.YtnblieajjclipaaGreat
theorem dN {α:Type} (g:Nat->α) (d:α) {n x:Nat} (h:x<n):((List.range n).map g).getD x d=g x:=by
 rw [List.getD_eq_getElem?_getD,List.getElem?_map,List.getElem?_range h]
 rfl
theorem qK {α:Type} (g:Nat->α) (v:α) (n x:Nat):((List.range n).map g).set x v=(List.range n).map fun j=>if j=x then v else g j:=by
 refine List.ext_getElem? fun j =>?_
 rw [List.getElem?_set]
 by_cases h:j<n
 ·by_cases e:x=j
  ·subst e
   rw [if_pos rfl,if_pos (by simpa using h),List.getElem?_map,List.getElem?_range h]
   simp
  ·rw [if_neg e,List.getElem?_map,List.getElem?_map,List.getElem?_range h]
   have e2:¬ j=x:=fun e'=>e e'.symm
   simp [e2]
 ·rw [List.getElem?_map,List.getElem?_map,List.getElem?_eq_none (by simpa using h)]
  simp only [Option.map_none,List.length_map,List.length_range]
  split
  ·rw [if_neg (by omega)]
  ·rfl
theorem gW {α:Type} {g g':Nat->α} {n:Nat} (h:∀ j,j<n->g j=g' j):(List.range n).map g=(List.range n).map g':=List.map_congr_left fun j hj=>h j (by simpa using hj)
theorem eU {α:Type} {rs:List α} {k:Nat} (h:k<rs.length) (d:α):rs.take (k+1)=rs.take k++[rs.getD k d]:=by
 rw [List.take_succ_eq_append_getElem h]
 simp [h]
def fB (p:Nat->Bool) (f:Nat->Int):Nat->Int
 | 0=>1152921504606846976
 | n+1=>if p n then min (fB p f n) (f n) else fB p f n
def minS (p:Nat->Bool) (f:Nat->Int):Nat->Int
 | 0 => -1
 | n+1=>if p n then (if minS p f n<0\/f n<minS p f n then f n else minS p f n) else minS p f n
theorem Yf {p:Nat->Bool} {f:Nat->Int} {n:Nat} (h:∀ y,y<n->p y=true->0<=f y/\f y<=1152921504606846976) :
  (minS p f n = -1/\fB p f n=1152921504606846976/\∀ y,y<n->p y=false)\/(minS p f n=fB p f n/\0<=fB p f n/\fB p f n<=1152921504606846976/\∃ y,y<n/\p y=true/\fB p f n<=f y):=by
 induction n with
 | zero=>exact .inl ⟨rfl,rfl,fun y hy=>by omega⟩
 | succ n ih =>
  have ih:=ih fun y hy=>h y (by omega)
  cases hp:p n with
  | false =>
   rcases ih with ⟨h1,h2,h3⟩ | ⟨h1,h2,h3,y,h4,h5,h6⟩
   ·refine .inl ⟨by simp [minS,hp,h1],by simp [fB,hp,h2],fun y hy =>?_⟩
    rcases Nat.lt_or_ge y n with h4 | h4
    ·exact h3 y h4
    ·rw [show y=n by omega];exact hp
   ·exact .inr ⟨by simp [minS,fB,hp,h1],by simp [fB,hp,h2],by simp [fB,hp,h3],y,by omega,h5,by simp [fB,hp,h6]⟩
  | true =>
   have hn:=h n (by omega) hp
   rcases ih with ⟨h1,h2,h3⟩ | ⟨h1,h2,h3,y,h4,h5,h6⟩
   ·have e1:minS p f (n+1)=f n:=by simp [minS,hp,h1]
    have e2:fB p f (n+1)=f n:=by simp only [fB,hp,if_true,h2];omega
    exact .inr ⟨by rw [e1,e2],by omega,by omega,n,by omega,hp,by omega⟩
   ·have e2:fB p f (n+1)=min (fB p f n) (f n):=by simp only [fB,hp,if_true]
    have e1:minS p f (n+1)=min (fB p f n) (f n):=by
     simp only [minS,hp,if_true,h1]
     by_cases hc:fB p f n<0\/f n<fB p f n
     ·rw [if_pos hc];omega
     ·rw [if_neg hc];omega
    exact .inr ⟨by rw [e1,e2],by rw [e2];omega,by rw [e2];omega,n,by omega,hp,by rw [e2];omega⟩
def lX (n:Nat) (rs:List Int):Prop:=∀ r∈rs,0<=r/\r<(n:Int)
theorem WS {n:Nat} {rs:List Int} (h:seqB n rs=true):lX n rs/\rs.length<=60:=by
 unfold seqB at h
 simp only [Bool.and_eq_true,decide_eq_true_eq] at h
 refine ⟨fun r hr =>?_,h.1⟩
 have:=jS.1 h.2 r hr
 omega
theorem lX.at {n:Nat} {rs:List Int} (h:lX n rs) {k:Nat} (hk:k<rs.length):∃ r:Nat,rs.getD k 0=r/\r<n:=by
 have h1:=h _ (List.getElem_mem hk)
 refine ⟨(rs[k]).toNat,?_,by omega⟩
 rw [getD_in hk]
 omega
theorem lX.take {n:Nat} {rs:List Int} (h:lX n rs) (k:Nat):lX n (rs.take k):=fun r hr=>h r (List.mem_of_mem_take hr)
end Go.Proofs.YtnblieajjclipaaGreat
namespace Go.Proofs.YtnblieajjclipaaGreat
open Go Go.RowKit Am
theorem SC {α:Type} (n:Nat) (x:α):List.replicate n x=(List.range n).map fun _=>x:=by
 refine List.ext_getElem? fun j =>?_
 rw [List.getElem?_map,List.getElem?_replicate]
 by_cases h:j<n
 ·rw [if_pos h,List.getElem?_range h];rfl
 ·rw [if_neg h,List.getElem?_eq_none (by simpa using h)];rfl
def Xn (f:Nat->Int) (l:List Int):Int:=l.foldl (fun a y=>min a (f y.toNat)) 1152921504606846976
theorem BQ (s:List (List Int)) (f:Nat->Int) (r:Nat):∀ n,Xn f (srv s n r)=fB (fun y=>decide (0<=at2 s r y)) f n
 | 0=>rfl
 | n+1=>by
  rw [pX,fB]
  by_cases h:0<=at2 s r n
  ·rw [if_pos h,if_pos (decide_eq_true h),← BQ s f r n]
   unfold Xn
   rw [List.foldl_append]
   simp
  ·rw [if_neg h,if_neg (by simpa using h),← BQ s f r n]
theorem QI {s:List (List Int)} {n r:Nat} {t:Nat} (h:t<(srv s n r).length):∃ y:Nat,(srv s n r).getD t 0=y/\y<n/\0<=at2 s r y:=by
 rw [getD_in h]
 have hm:=List.getElem_mem h
 unfold srv at hm ⊢
 rw [List.mem_map] at hm
 obtain ⟨y,hy,e⟩:=hm
 rw [List.mem_filter] at hy
 exact ⟨y,e.symm,by simpa using hy.1,by simpa using hy.2⟩
theorem Ec {m s:List (List Int)} (h:bg m s=true) {r:Nat} (hr:r<s.length):∃ y,y<m.length/\0<=at2 s r y:=by
 unfold bg at h
 simp only [Bool.and_eq_true,List.all_eq_true] at h
 have h1:=h.2 _ (List.getElem_mem hr)
 unfold iY at h1
 simp only [Bool.and_eq_true,beq_iff_eq,List.any_eq_true,decide_eq_true_eq] at h1
 obtain ⟨⟨h2,_⟩,c,h3,h4⟩:=h1
 obtain ⟨y,hy,rfl⟩:=List.mem_iff_getElem.1 h3
 exact ⟨y,by omega,by rw [MG hr hy];exact h4⟩
theorem Zq {a b:Prop} [Decidable a] [Decidable b]:(bif decide a then true else decide b)=true↔a\/b:=by by_cases h:a<;>simp [h]
theorem MH {a b:Prop} [Decidable a] [Decidable b]:(bif decide a then true else decide b)=false↔¬ (a\/b):=by by_cases h:a<;>simp [h]
theorem qc {m s:List (List Int)} {x:Int} {rs:List Int} (h:bH m s x rs=true):bg m s=true/\(∃ y:Nat,x=y/\y<m.length)/\lX s.length rs/\rs.length<=60:=by
 unfold bH at h
 simp only [Bool.and_eq_true] at h
 obtain ⟨⟨h1,h2⟩,h3⟩:=h
 have h2:=gK.1 h2
 obtain ⟨h4,h5⟩:=WS h3
 exact ⟨h1,⟨x.toNat,by omega,by omega⟩,h4,h5⟩
theorem Ug (m s:List (List Int)) (x y r:Nat) (x' y' r':Int) (h1:x'=x) (h2:y'=y) (h3:r'=r) (hp:bg m s=true) (hx:x<m.length) (hy:y<m.length) (hr:r<s.length):Does Tryz.prog 99 [prA m s,.int x',.int y',.int r'] (.imm (.int (at2 m x y+at2 s r y))):=by
 subst h1 h2 h3
 exact Zw m s x y r hp hx hy hr
theorem Kv (m s:List (List Int)) (x:Int):Does Tryz.prog 72 [prA m s,.int x,.val (.slice none 0 0)] (.imm (.bool (bH m s x []))) :=
 Does.args (rZ m s x []) fun M us ha=>by
  obtain ⟨u,us',rfl,h1,h2⟩:=dK ha
  obtain ⟨u',us'',rfl,h3,h4⟩:=dK h2
  obtain ⟨u2,us3,rfl,h5,h6⟩:=dK h4
  exact pz h1 (pz h3 (pz (VJ h5) h6))
end Go.Proofs.YtnblieajjclipaaGreat
namespace Go.Proofs.YtnblieajjclipaaGreat
end Go.Proofs.YtnblieajjclipaaGreat
