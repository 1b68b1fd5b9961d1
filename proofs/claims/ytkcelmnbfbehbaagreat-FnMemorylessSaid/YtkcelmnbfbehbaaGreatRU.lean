/- Sums and least numbers over the first numbers; the best cost by independent draws: the plain laws. Conditions: none. -/
import Derived.Test.YtkcelmnbfbehbaaGreatGCT
set_option linter.all false
namespace Go.Proofs.YtkcelmnbfbehbaaGreat
def sumTo (f:Nat->Int):Nat->Int
 | 0=>0
 | n+1=>sumTo f n+f n
def gU (p:Nat->Bool) (f:Nat->Int):Nat->Int
 | 0=>1152921504606846976
 | n+1=>if p n then min (gU p f n) (f n) else gU p f n
def minS (p:Nat->Bool) (f:Nat->Int):Nat->Int
 | 0 => -1
 | n+1=>if p n then (if minS p f n<0\/f n<minS p f n then f n else minS p f n) else minS p f n
theorem Ym {p:Nat->Bool} {f:Nat->Int} {n:Nat} (h:∀ y,y<n->p y=true->0<=f y/\f y<=1152921504606846976) :
  (minS p f n = -1/\gU p f n=1152921504606846976/\∀ y,y<n->p y=false)\/(minS p f n=gU p f n/\0<=gU p f n/\gU p f n<=1152921504606846976/\∃ y,y<n/\p y=true/\gU p f n<=f y):=by
 induction n with
 | zero=>exact .inl ⟨rfl,rfl,fun y hy=>by omega⟩
 | succ n ih =>
  have ih:=ih fun y hy=>h y (by omega)
  cases hp:p n with
  | false =>
   rcases ih with ⟨h1,h2,h3⟩ | ⟨h1,h2,h3,y,h4,h5,h6⟩
   ·refine .inl ⟨by simp [minS,hp,h1],by simp [gU,hp,h2],fun y hy =>?_⟩
    rcases Nat.lt_or_ge y n with h4 | h4
    ·exact h3 y h4
    ·rw [show y=n by omega];exact hp
   ·exact .inr ⟨by simp [minS,gU,hp,h1],by simp [gU,hp,h2],by simp [gU,hp,h3],y,by omega,h5,by simp [gU,hp,h6]⟩
  | true =>
   have hn:=h n (by omega) hp
   rcases ih with ⟨h1,h2,h3⟩ | ⟨h1,h2,h3,y,h4,h5,h6⟩
   ·have e1:minS p f (n+1)=f n:=by simp [minS,hp,h1]
    have e2:gU p f (n+1)=f n:=by simp only [gU,hp,if_true,h2];omega
    exact .inr ⟨by rw [e1,e2],by omega,by omega,n,by omega,hp,by omega⟩
   ·have e2:gU p f (n+1)=min (gU p f n) (f n):=by simp only [gU,hp,if_true]
    have e1:minS p f (n+1)=min (gU p f n) (f n):=by
     simp only [minS,hp,if_true,h1]
     by_cases hc:gU p f n<0\/f n<gU p f n
     ·rw [if_pos hc];omega
     ·rw [if_neg hc];omega
    exact .inr ⟨by rw [e1,e2],by rw [e2];omega,by rw [e2];omega,n,by omega,hp,by rw [e2];omega⟩
def stepS (next:List (List Int)) (x:Nat) (r:Int):Nat:=(at2 next x r.toNat).toNat
def Zr (n:Nat) (rs:List Int):Prop:=∀ r∈rs,0<=r/\r<(n:Int)
theorem WV {n:Nat} {rs:List Int} (h:seqB n rs=true):Zr n rs/\rs.length<=60:=by
 unfold seqB at h
 simp only [Bool.and_eq_true,decide_eq_true_eq] at h
 refine ⟨fun r hr =>?_,h.1⟩
 have:=yX.1 h.2 r hr
 omega
structure ac4 (m s next:List (List Int)) (x:Nat) (r:Nat) (y:Nat):Prop where
 lt:y<m.length
 eq:at2 next x r=(y:Int)
 ok:0<=at2 s r y
 row:(next.getD x []).length=s.length
 len:next.length=m.length
theorem GY {m s next:List (List Int)} (ha:pY m s next=true) {x r:Nat} (hx:x<m.length) (hr:r<s.length):ac4 m s next x r (stepS next x r):=by
 unfold pY at ha
 simp only [Bool.and_eq_true,beq_iff_eq,List.all_eq_true] at ha
 obtain ⟨h1,h2⟩:=ha
 have hx':x<next.length:=by omega
 have h3:=h2 _ (List.getElem_mem hx')
 rw [← getD_in (d:=[]) hx'] at h3
 unfold oW at h3
 simp only [Bool.and_eq_true,beq_iff_eq] at h3
 have h4:=bg.1 h3.2 r (by omega)
 unfold EX at h4
 simp only [Bool.and_eq_true,decide_eq_true_eq] at h4
 have h5:=jf.1 h4.1
 have e:at2 next x r=((next.getD x []).getD r 0):=rfl
 have e2:stepS next x r=((next.getD x []).getD r 0).toNat:=by unfold stepS;rw [Int.toNat_natCast,e]
 refine ⟨by rw [e2];omega,by rw [e2,e];omega,by rw [e2];exact h4.2,h3.1,h1⟩
end Go.Proofs.YtkcelmnbfbehbaaGreat
namespace Go.Proofs.YtkcelmnbfbehbaaGreat
open Go Go.RowKit Am
theorem RG {α:Type} (n:Nat) (x:α):List.replicate n x=(List.range n).map fun _=>x:=by
 refine List.ext_getElem? fun j =>?_
 rw [List.getElem?_map,List.getElem?_replicate]
 by_cases h:j<n
 ·rw [if_pos h,List.getElem?_range h];rfl
 ·rw [if_neg h,List.getElem?_eq_none (by simpa using h)];rfl
def Xm (f:Nat->Int) (l:List Int):Int:=l.foldl (fun a y=>min a (f y.toNat)) 1152921504606846976
theorem BH (s:List (List Int)) (f:Nat->Int) (r:Nat):∀ n,Xm f (srv s n r)=gU (fun y=>decide (0<=at2 s r y)) f n
 | 0=>rfl
 | n+1=>by
  rw [lM,gU]
  by_cases h:0<=at2 s r n
  ·rw [if_pos h,if_pos (decide_eq_true h),← BH s f r n]
   unfold Xm
   rw [List.foldl_append]
   simp
  ·rw [if_neg h,if_neg (by simpa using h),← BH s f r n]
theorem IZ {s:List (List Int)} {n r:Nat} {t:Nat} (h:t<(srv s n r).length):∃ y:Nat,(srv s n r).getD t 0=y/\y<n/\0<=at2 s r y:=by
 rw [getD_in h]
 have hm:=List.getElem_mem h
 unfold srv at hm ⊢
 rw [List.mem_map] at hm
 obtain ⟨y,hy,e⟩:=hm
 rw [List.mem_filter] at hy
 exact ⟨y,e.symm,by simpa using hy.1,by simpa using hy.2⟩
theorem D5 {m s:List (List Int)} (h:aO m s=true) {r:Nat} (hr:r<s.length):∃ y,y<m.length/\0<=at2 s r y:=by
 unfold aO at h
 simp only [Bool.and_eq_true,List.all_eq_true] at h
 have h1:=h.2 _ (List.getElem_mem hr)
 unfold jq at h1
 simp only [Bool.and_eq_true,beq_iff_eq,List.any_eq_true,decide_eq_true_eq] at h1
 obtain ⟨⟨h2,_⟩,c,h3,h4⟩:=h1
 obtain ⟨y,hy,rfl⟩:=List.mem_iff_getElem.1 h3
 exact ⟨y,by omega,by rw [L6 hr hy];exact h4⟩
theorem ZO {a b:Prop} [Decidable a] [Decidable b]:(bif decide a then true else decide b)=true↔a\/b:=by by_cases h:a<;>simp [h]
theorem L8 {a b:Prop} [Decidable a] [Decidable b]:(bif decide a then true else decide b)=false↔¬ (a\/b):=by by_cases h:a<;>simp [h]
theorem iK {m s:List (List Int)} {x:Int} {rs:List Int} (h:bn m s x rs=true):aO m s=true/\(∃ y:Nat,x=y/\y<m.length)/\Zr s.length rs/\rs.length<=60:=by
 unfold bn at h
 simp only [Bool.and_eq_true] at h
 obtain ⟨⟨h1,h2⟩,h3⟩:=h
 have h2:=jf.1 h2
 obtain ⟨h4,h5⟩:=WV h3
 exact ⟨h1,⟨x.toNat,by omega,by omega⟩,h4,h5⟩
theorem vU (m s:List (List Int)) (x y r:Nat) (x' y' r':Int) (h1:x'=x) (h2:y'=y) (h3:r'=r) (hp:aO m s=true) (hx:x<m.length) (hy:y<m.length) (hr:r<s.length):Does Tryz.prog 59 [prA m s,.int x',.int y',.int r'] (.imm (.int (at2 m x y+at2 s r y))):=by
 subst h1 h2 h3
 exact ZV m s x y r hp hx hy hr
theorem lC (m s:List (List Int)) (x:Int):Does Tryz.prog 57 [prA m s,.int x,.val (.slice none 0 0)] (.imm (.bool (bn m s x []))) :=
 Does.args (Kt m s x []) fun M us ha=>by
  obtain ⟨u,us',rfl,h1,h2⟩:=dh ha
  obtain ⟨u',us'',rfl,h3,h4⟩:=dh h2
  obtain ⟨u2,us3,rfl,h5,h6⟩:=dh h4
  exact qh h1 (qh h3 (qh (VP h5) h6))
end Go.Proofs.YtkcelmnbfbehbaaGreat
