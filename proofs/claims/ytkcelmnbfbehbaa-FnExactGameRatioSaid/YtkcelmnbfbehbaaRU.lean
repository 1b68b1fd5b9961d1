/- Sums and least numbers over the first numbers; the best cost by independent draws: the plain laws. Conditions: none. -/
import Derived.Test.YtkcelmnbfbehbaaOA
import Derived.Test.YtkcelmnbfbehbaaListP
import Derived.Test.YtkcelmnbfbehbaaGCT
set_option linter.all false
set_option linter.unusedSimpArgs false
set_option linter.unusedVariables false
namespace Go.Proofs.Ytkcelmnbfbehbaa

/-- the least of f over the numbers below n that p takes, from 2^60 down -/
def minTo (p:Nat→Bool) (f:Nat→Int):Nat→Int
  | 0=>1152921504606846976
  | n+1=>if p n then min (minTo p f n) (f n) else minTo p f n
/-- the same, from the first that is taken; -1: none yet -/
def minS (p:Nat→Bool) (f:Nat→Int):Nat→Int
  | 0 => -1
  | n+1=>if p n then (if minS p f n<0∨f n<minS p f n then f n else minS p f n) else minS p f n
theorem minS_eq {p:Nat→Bool} {f:Nat→Int} {n:Nat} (h:∀ y,y<n→p y=true→0≤f y∧f y≤1152921504606846976) :
    (minS p f n = -1∧minTo p f n=1152921504606846976∧∀ y,y<n→p y=false)∨(minS p f n=minTo p f n∧0≤minTo p f n∧minTo p f n≤1152921504606846976∧∃ y,y<n∧p y=true∧minTo p f n≤f y):=by
  induction n with
  | zero=>exact .inl ⟨rfl,rfl,fun y hy=>by omega⟩
  | succ n ih =>
    have ih:=ih fun y hy=>h y (by omega)
    cases hp:p n with
    | false =>
      rcases ih with ⟨h1,h2,h3⟩ | ⟨h1,h2,h3,y,h4,h5,h6⟩
      · refine .inl ⟨by simp [minS,hp,h1],by simp [minTo,hp,h2],fun y hy => ?_⟩
        rcases Nat.lt_or_ge y n with h4 | h4
        · exact h3 y h4
        · rw [show y=n by omega];exact hp
      · exact .inr ⟨by simp [minS,minTo,hp,h1],by simp [minTo,hp,h2],by simp [minTo,hp,h3],y,by omega,h5,by simp [minTo,hp,h6]⟩
    | true =>
      have hn:=h n (by omega) hp
      rcases ih with ⟨h1,h2,h3⟩ | ⟨h1,h2,h3,y,h4,h5,h6⟩
      · have e1:minS p f (n+1)=f n:=by simp [minS,hp,h1]
        have e2:minTo p f (n+1)=f n:=by simp only [minTo,hp,if_true,h2];omega
        exact .inr ⟨by rw [e1,e2],by omega,by omega,n,by omega,hp,by omega⟩
      · have e2:minTo p f (n+1)=min (minTo p f n) (f n):=by simp only [minTo,hp,if_true]
        have e1:minS p f (n+1)=min (minTo p f n) (f n):=by
          simp only [minS,hp,if_true,h1]
          by_cases hc:minTo p f n<0∨f n<minTo p f n
          · rw [if_pos hc];omega
          · rw [if_neg hc];omega
        exact .inr ⟨by rw [e1,e2],by rw [e2];omega,by rw [e2];omega,n,by omega,hp,by rw [e2];omega⟩
end Go.Proofs.Ytkcelmnbfbehbaa
/- Runs of an algorithm: the plain laws. Conditions: problems and algorithms that are right. -/
set_option linter.all false
set_option linter.unusedSimpArgs false
set_option linter.unusedVariables false
namespace Go.Proofs.Ytkcelmnbfbehbaa

/-- a sequence of requests below n -/
def reqsB (n:Nat) (rs:List Int):Prop:=∀ r∈rs,0≤r∧r<(n:Int)
theorem seq_reqs {n:Nat} {rs:List Int} (h:seqB n rs=true):reqsB n rs∧rs.length≤60:=by
  unfold seqB at h
  simp only [Bool.and_eq_true,decide_eq_true_eq] at h
  refine ⟨fun r hr => ?_,h.1⟩
  have:=allIn_iff.1 h.2 r hr
  omega
theorem reqsB.at {n:Nat} {rs:List Int} (h:reqsB n rs) {k:Nat} (hk:k<rs.length):∃ r:Nat,rs.getD k 0=r∧r<n:=by
  have h1:=h _ (List.getElem_mem hk)
  refine ⟨(rs[k]).toNat,?_,by omega⟩
  rw [getD_in hk]
  omega
theorem reqsB.take {n:Nat} {rs:List Int} (h:reqsB n rs) (k:Nat):reqsB n (rs.take k):=fun r hr=>h r (List.mem_of_mem_take hr)
end Go.Proofs.Ytkcelmnbfbehbaa
/- Problems, and the states in which a request can be served: small facts. Conditions: none. -/
set_option linter.all false
set_option linter.unusedSimpArgs false
set_option linter.unusedVariables false
namespace Go.Proofs.Ytkcelmnbfbehbaa
open Go Go.RowKit Am

theorem rep_range {α:Type} (n:Nat) (x:α):List.replicate n x=(List.range n).map fun _=>x:=by
  refine List.ext_getElem? fun j => ?_
  rw [List.getElem?_map,List.getElem?_replicate]
  by_cases h:j<n
  · rw [if_pos h,List.getElem?_range h];rfl
  · rw [if_neg h,List.getElem?_eq_none (by simpa using h)];rfl
/-- the least of f over a list -/
def accM (f:Nat→Int) (l:List Int):Int:=l.foldl (fun a y=>min a (f y.toNat)) 1152921504606846976
theorem accM_srv (s:List (List Int)) (f:Nat→Int) (r:Nat):∀ n,accM f (srv s n r)=minTo (fun y=>decide (0≤at2 s r y)) f n
  | 0=>rfl
  | n+1=>by
    rw [srv_step,minTo]
    by_cases h:0≤at2 s r n
    · rw [if_pos h,if_pos (decide_eq_true h),← accM_srv s f r n]
      unfold accM
      rw [List.foldl_append]
      simp
    · rw [if_neg h,if_neg (by simpa using h),← accM_srv s f r n]
theorem srv_mem {s:List (List Int)} {n r:Nat} {t:Nat} (h:t<(srv s n r).length):∃ y:Nat,(srv s n r).getD t 0=y∧y<n∧0≤at2 s r y:=by
  rw [getD_in h]
  have hm:=List.getElem_mem h
  unfold srv at hm ⊢
  rw [List.mem_map] at hm
  obtain ⟨y,hy,e⟩:=hm
  rw [List.mem_filter] at hy
  exact ⟨y,e.symm,by simpa using hy.1,by simpa using hy.2⟩
theorem prob_any {m s:List (List Int)} (h:probB m s=true) {r:Nat} (hr:r<s.length):∃ y,y<m.length∧0≤at2 s r y:=by
  unfold probB at h
  simp only [Bool.and_eq_true,List.all_eq_true] at h
  have h1:=h.2 _ (List.getElem_mem hr)
  unfold reqB at h1
  simp only [Bool.and_eq_true,beq_iff_eq,List.any_eq_true,decide_eq_true_eq] at h1
  obtain ⟨⟨h2,_⟩,c,h3,h4⟩:=h1
  obtain ⟨y,hy,rfl⟩:=List.mem_iff_getElem.1 h3
  exact ⟨y,by omega,by rw [at2_eq hr hy];exact h4⟩
theorem bif_or {a b:Prop} [Decidable a] [Decidable b]:(bif decide a then true else decide b)=true↔a∨b:=by by_cases h:a<;>simp [h]
theorem bif_or_not {a b:Prop} [Decidable a] [Decidable b]:(bif decide a then true else decide b)=false↔¬ (a∨b):=by by_cases h:a<;>simp [h]
theorem takes_ok {m s:List (List Int)} {x:Int} {rs:List Int} (h:takesB m s x rs=true):probB m s=true∧(∃ y:Nat,x=y∧y<m.length)∧reqsB s.length rs∧rs.length≤60:=by
  unfold takesB at h
  simp only [Bool.and_eq_true] at h
  obtain ⟨⟨h1,h2⟩,h3⟩:=h
  have h2:=rng_iff.1 h2
  obtain ⟨h4,h5⟩:=seq_reqs h3
  exact ⟨h1,⟨x.toNat,by omega,by omega⟩,h4,h5⟩
theorem cost_i (m s:List (List Int)) (x y r:Nat) (x' y' r':Int) (h1:x'=x) (h2:y'=y) (h3:r'=r) (hp:probB m s=true) (hx:x<m.length) (hy:y<m.length) (hr:r<s.length):Does Try.prog 45 [prA m s,.int x',.int y',.int r'] (.imm (.int (at2 m x y+at2 s r y))):=by
  subst h1 h2 h3
  exact cost_d m s x y r hp hx hy hr
theorem isStarted_n (m s:List (List Int)) (x:Int):Does Try.prog 41 [prA m s,.int x,.val (.slice none 0 0)] (.imm (.bool (takesB m s x []))) :=
  Does.args (isStarted_d m s x []) fun M us ha=>by
    obtain ⟨u,us',rfl,h1,h2⟩:=args_inv ha
    obtain ⟨u',us'',rfl,h3,h4⟩:=args_inv h2
    obtain ⟨u2,us3,rfl,h5,h6⟩:=args_inv h4
    exact args_cons h1 (args_cons h3 (args_cons (nil_ints h5) h6))
end Go.Proofs.Ytkcelmnbfbehbaa
