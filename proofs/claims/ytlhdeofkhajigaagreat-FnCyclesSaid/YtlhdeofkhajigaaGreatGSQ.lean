/- All sequences of a length of numbers below a bound, in lexicographic order: the plain laws. Conditions: a bound of at least 1. -/
import Derived.Test.YtlhdeofkhajigaaGreatListP
set_option linter.all false
set_option linter.unusedSimpArgs false
set_option linter.unusedVariables false
namespace Go.Proofs.YtlhdeofkhajigaaGreat

/-- digit s of k, the last one being digit 0 -/
def digS (b k s:Nat):Nat:=k / b ^ s % b
/-- the k-th sequence -/
def sq (b n k:Nat):List Int:=(List.range n).map fun (i:Nat)=>((digS b k (n-1-i):Nat):Int)
theorem sq_len (b n k:Nat):(sq b n k).length=n:=by simp [sq]
/-- the k-th sequence, of whose last digits t are set to 0 -/
def sqT (b n k t:Nat):List Int:=(List.range n).map fun (i:Nat)=>if n≤i+t then 0 else ((digS b k (n-1-i):Nat):Int)
theorem sqT_len (b n k t:Nat):(sqT b n k t).length=n:=by simp [sqT]
theorem sqT_0 (b n k:Nat):sqT b n k 0=sq b n k:=rangeMap_congr fun i hi=>if_neg (by omega)
theorem sq_0 (b n:Nat):sq b n 0=List.replicate n 0:=by
  refine List.ext_getElem (by simp [sq]) fun i h1 h2 => ?_
  simp [sq,digS]
section
variable {b n k t:Nat}
theorem sqT_at (ht:t<n):(sqT b n k t).getD (n-1-t) 0=((digS b k t:Nat):Int):=by
  unfold sqT
  rw [rangeMap_getD _ _ (by omega),if_neg (by omega),show n-1-(n-1-t)=t by omega]
theorem sqT_next (ht:t<n):(sqT b n k t).set (n-1-t) 0=sqT b n k (t+1):=by
  unfold sqT
  rw [rangeMap_set]
  refine rangeMap_congr fun i hi => ?_
  by_cases e:i=n-1-t
  · rw [if_pos e,if_pos (by omega)]
  · rw [if_neg e]
    by_cases h:n≤i+t
    · rw [if_pos h,if_pos (by omega)]
    · rw [if_neg h,if_neg (by omega)]
/-- the last t digits are all b - 1 -/
def nines (b k t:Nat):Prop:=k % b ^ t+1=b ^ t
theorem nines_0 (b k:Nat):nines b k 0:=by simp [nines,Nat.mod_one]
theorem nines_next (hb:1≤b) (h:nines b k t) (hd:digS b k t+1=b):nines b k (t+1):=by
  unfold nines digS at *
  have h1:k % b ^ (t+1)=b ^ t*(k / b ^ t % b)+k % b ^ t:=by
    rw [Nat.pow_succ,Nat.mod_mul,Nat.add_comm]
  rw [h1,Nat.add_assoc,h,Nat.pow_succ]
  have h2:b ^ t*(k / b ^ t % b+1)=b ^ t*b:=by rw [hd]
  rw [Nat.mul_add,Nat.mul_one] at h2
  exact h2
theorem nines_eq (hb:1≤b) (h:nines b k t):k+1=(k / b ^ t+1)*b ^ t:=by
  unfold nines at h
  have h1:=Nat.div_add_mod k (b ^ t)
  rw [Nat.add_mul,Nat.one_mul,Nat.mul_comm]
  omega
theorem digS_low (hb:1≤b) (h:nines b k t) {s:Nat} (hs:s<t):digS b (k+1) s=0:=by
  unfold digS
  rw [nines_eq hb h]
  have hp:0<b ^ s:=Nat.pow_pos (by omega)
  have e:b ^ t=b ^ (t-s-1)*b*b ^ s:=by rw [← Nat.pow_succ,← Nat.pow_add];congr 1;omega
  rw [e,← Nat.mul_assoc,Nat.mul_div_cancel _ hp,← Nat.mul_assoc,Nat.mul_mod_left]
theorem digS_at (hb:1≤b) (h:nines b k t) (hd:digS b k t+1≠b):digS b (k+1) t=digS b k t+1:=by
  have hp:0<b ^ t:=Nat.pow_pos (by omega)
  have e:(k+1) / b ^ t=k / b ^ t+1:=by
    rw [nines_eq hb h,Nat.mul_div_cancel _ hp]
  unfold digS at *
  rw [e]
  have h1:k / b ^ t % b<b:=Nat.mod_lt _ (by omega)
  rw [Nat.add_mod,Nat.mod_eq_of_lt (a:=k / b ^ t % b+1 % b)]
  · by_cases hb1:b=1
    · subst hb1;omega
    · rw [Nat.mod_eq_of_lt (a:=1) (by omega)]
  · by_cases hb1:b=1
    · subst hb1;omega
    · rw [Nat.mod_eq_of_lt (a:=1) (by omega)];omega
theorem div_next {x b:Nat} (hb:1≤b) (h:x % b+1≠b):(x+1) / b=x / b:=by
  have h1:=Nat.div_add_mod x b
  have h2:x % b<b:=Nat.mod_lt _ (by omega)
  refine Nat.div_eq_of_lt_le ?_ ?_
  · rw [Nat.mul_comm];omega
  · rw [Nat.succ_mul,Nat.mul_comm];omega
theorem digS_high (hb:1≤b) (h:nines b k t) (hd:digS b k t+1≠b) {s:Nat} (hs:t<s):digS b (k+1) s=digS b k s:=by
  have hp:0<b ^ t:=Nat.pow_pos (by omega)
  have e:(k+1) / b ^ t=k / b ^ t+1:=by
    rw [nines_eq hb h,Nat.mul_div_cancel _ hp]
  have e2:∀ x,x / b ^ s=x / b ^ t / b / b ^ (s-t-1):=fun x=>by
    rw [Nat.div_div_eq_div_mul,Nat.div_div_eq_div_mul,← Nat.pow_succ',← Nat.pow_add]
    congr 2
    omega
  unfold digS at *
  rw [e2,e2 k,e,div_next hb hd]
/-- the digit before the last t ones grows: the next sequence -/
theorem sqT_inc (hb:1≤b) (ht:t<n) (h:nines b k t) (hd:digS b k t+1≠b):(sqT b n k t).set (n-1-t) ((digS b k t:Nat)+1)=sq b n (k+1):=by
  unfold sqT sq
  rw [rangeMap_set]
  refine rangeMap_congr fun i hi => ?_
  by_cases e:i=n-1-t
  · rw [if_pos e,show n-1-i=t by omega,digS_at hb h hd]
    rfl
  · rw [if_neg e]
    by_cases h2:n≤i+t
    · rw [if_pos h2,digS_low hb h (by omega)]
      rfl
    · rw [if_neg h2,digS_high hb h hd (by omega)]
theorem nines_all (hb:1≤b) (hk:k<b ^ n) (h:nines b k n):k+1=b ^ n:=by
  unfold nines at h
  rwa [Nat.mod_eq_of_lt hk] at h
theorem nines_lt (hb:1≤b) (hk:k<b ^ n) (ht:t<n) (h:nines b k t) (hd:digS b k t+1≠b):k+1<b ^ n:=by
  rcases Nat.lt_or_ge (k+1) (b ^ n) with h1 | h1
  · exact h1
  · exfalso
    have hk1:k+1=b ^ n:=by omega
    have hp:0<b ^ t:=Nat.pow_pos (by omega)
    have e:(k+1) / b ^ t=k / b ^ t+1:=by
      rw [nines_eq hb h,Nat.mul_div_cancel _ hp]
    have e2:(k+1) / b ^ t=b ^ (n-t-1)*b:=by
      rw [hk1,show b ^ n=b ^ (n-t-1)*b*b ^ t by rw [← Nat.pow_succ,← Nat.pow_add];congr 1;omega,Nat.mul_div_cancel _ hp]
    have e3:(k / b ^ t+1) % b=0:=by rw [← e,e2,Nat.mul_mod_left]
    have h4:=digS_at hb h hd
    unfold digS at h4
    rw [e,e3] at h4
    omega
theorem digS_le (hb:1≤b) (k s:Nat):digS b k s<b:=Nat.mod_lt _ (by omega)
/-- the sequences that begin with r -/
theorem sq_cons (hb:1≤b) {r j:Nat} (hr:r<b) (hj:j<b ^ n):sq b (n+1) (r*b ^ n+j)=(r:Int)::sq b n j:=by
  have hp:0<b ^ n:=Nat.pow_pos (by omega)
  refine List.ext_getElem (by simp [sq]) fun i h1 h2 => ?_
  cases i with
  | zero =>
    simp only [sq,List.getElem_map,List.getElem_range,List.getElem_cons_zero,digS]
    rw [show n+1-1-0=n by omega,Nat.add_comm,Nat.add_mul_div_right _ _ hp,Nat.div_eq_of_lt hj,Nat.zero_add,Nat.mod_eq_of_lt hr]
  | succ i =>
    have hi:i<n:=by simpa [sq] using h2
    simp only [sq,List.getElem_map,List.getElem_range,List.getElem_cons_succ,digS]
    rw [show n+1-1-(i+1)=n-1-i by omega]
    have hq:0<b ^ (n-1-i):=Nat.pow_pos (by omega)
    have e:r*b ^ n=r*b ^ i*b*b ^ (n-1-i):=by
      rw [Nat.mul_assoc,Nat.mul_assoc,← Nat.pow_succ',← Nat.pow_add]
      congr 2
      omega
    rw [e,Nat.add_comm,Nat.add_mul_div_right _ _ hq,Nat.add_mul_mod_self_right]
end
/-- the first sequence with a property -/
def firstS (b n:Nat) (p:List Int→Bool):Option (List Int):=((List.range (b ^ n)).find? fun k=>p (sq b n k)).map (sq b n)
end Go.Proofs.YtlhdeofkhajigaaGreat
/- The first good sequence, found digit by digit. No program here. -/
set_option linter.all false
set_option linter.unusedSimpArgs false
set_option linter.unusedVariables false
namespace Go.Proofs.YtlhdeofkhajigaaGreat

theorem find_congr {α:Type} {p q:α→Bool}:∀ {l:List α},(∀ x∈l,p x=q x)→l.find? p=l.find? q
  | [],_=>rfl
  | x::l,h=>by
    rw [List.find?_cons,List.find?_cons,h x List.mem_cons_self,find_congr fun y hy=>h y (List.mem_cons_of_mem _ hy)]
theorem mapFind_congr {α β:Type} {p:α→Bool} {f g:α→β} {l:List α} (h:∀ x∈l,f x=g x):(l.find? p).map f=(l.find? p).map g:=by
  cases e:l.find? p with
  | none=>rfl
  | some x=>rw [Option.map_some,Option.map_some,h x (List.mem_of_find?_eq_some e)]
theorem first_upto {b n:Nat} (hb:1≤b) (p:List Int→Bool):∀ m,m≤b→((List.range (m*b ^ n)).find? fun k=>p (sq b (n+1) k)).map (sq b (n+1))=(List.range m).findSome? fun (r:Nat)=>(firstS b n fun rs=>p ((r:Int)::rs)).map fun rs=>(r:Int)::rs
  | 0,_=>by simp
  | m+1,hm=>by
    have ih:=first_upto (n:=n) hb p m (by omega)
    rw [Nat.succ_mul,List.range_add,List.find?_append,Option.map_or,ih,List.range_succ,List.findSome?_append]
    congr 1
    have e1:∀ j∈List.range (b ^ n),sq b (n+1) (m*b ^ n+j)=(m:Int)::sq b n j:=fun j hj=>sq_cons hb (by omega) (by simpa using hj)
    rw [List.find?_map,Option.map_map]
    rw [mapFind_congr (f:=sq b (n+1) ∘ fun x=>m*b ^ n+x) (g:=fun j=>(m:Int)::sq b n j) fun j hj=>e1 j hj]
    rw [find_congr (p:=(fun k=>p (sq b (n+1) k)) ∘ fun x=>m*b ^ n+x) (q:=fun j=>p ((m:Int)::sq b n j)) fun j hj=>by simp only [Function.comp];rw [e1 j hj]]
    unfold firstS
    simp [Option.map_map,Function.comp_def]
theorem firstS_cons {b n:Nat} (hb:1≤b) (p:List Int→Bool):firstS b (n+1) p=(List.range b).findSome? fun (r:Nat)=>(firstS b n fun rs=>p ((r:Int)::rs)).map fun rs=>(r:Int)::rs:=by
  rw [← first_upto hb p b (Nat.le_refl _)]
  unfold firstS
  rw [Nat.pow_succ,Nat.mul_comm]
theorem firstS_zero {b:Nat} (p:List Int→Bool):firstS b 0 p=bif p [] then some [] else none:=by
  unfold firstS sq
  cases h:p []<;>simp [h]
end Go.Proofs.YtlhdeofkhajigaaGreat
