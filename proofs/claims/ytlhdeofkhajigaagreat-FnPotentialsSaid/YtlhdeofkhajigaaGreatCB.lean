/- Walks along the edges of pairs, on the machine. Conditions: edges that lead to pairs. -/
import Derived.Test.YtlhdeofkhajigaaGreatGWI
import Derived.Test.YtlhdeofkhajigaaGreatGSQ
import Derived.Test.YtlhdeofkhajigaaGreatPR
import Derived.Test.YtlhdeofkhajigaaGreatGCR
set_option linter.all false
set_option linter.unusedSimpArgs false
set_option linter.unusedVariables false
namespace Go.Proofs.YtlhdeofkhajigaaGreat
open Go Go.RowKit Am

abbrev fourE (c:List Int):AV := .tv (.agg [.b (.val (.int .i64 (c.getD 0 0))),.b (.val (.int .i64 (c.getD 1 0))),.b (.val (.int .i64 (c.getD 2 0))),.b (.val (.int .i64 (c.getD 3 0)))])
abbrev prX (L E:List (List Int)) (K:Nat):AV := .lf (.ip [.sl (.k 2 L),.sl (.k 4 E),.val (.int .i64 K)] 0)
structure EdOK (E:List (List Int)) (K N:Nat):Prop where
  len:E.length=N*K
  n:N≤1000
  k:1≤K∧K≤10
  to:∀ c∈E,0≤c.getD 1 0∧c.getD 1 0<(N:Int)
theorem EdOK.at {E:List (List Int)} {K N:Nat} (h:EdOK E K N) {i r:Nat} (hi:i<N) (hr:r<K):i*K+r<E.length∧i*K≤10000:=by
  have h1:=Nat.mul_le_mul_right K (show i+1≤N by omega)
  rw [Nat.succ_mul] at h1
  have h2:i*K≤1000*10:=Nat.mul_le_mul (by have:=h.n;omega) h.k.2
  rw [h.len]
  omega
def toE (E:List (List Int)) (K p r:Nat):Nat:=((E.getD (p*K+r) []).getD 1 0).toNat
def afterE (E:List (List Int)) (K p:Nat) (rs:List Int):Nat:=rs.foldl (fun p r=>toE E K p r.toNat) p
theorem toE_at {E:List (List Int)} {K N:Nat} (h:EdOK E K N) {i r:Nat} (hi:i<N) (hr:r<K):(E.getD (i*K+r) []).getD 1 0=(toE E K i r:Int)∧toE E K i r<N:=by
  have h1:=h.at hi hr
  have h2:=h.to (E.getD (i*K+r) []) (by rw [getD_in h1.1];exact List.getElem_mem h1.1)
  unfold toE
  omega
theorem after_take {E:List (List Int)} {K p k:Nat} {rs:List Int} (hk:k<rs.length):afterE E K p (rs.take (k+1))=toE E K (afterE E K p (rs.take k)) (rs.getD k 0).toNat:=by
  unfold afterE
  rw [List.take_succ_eq_append_getElem hk,List.foldl_append,getD_in hk]
  rfl
theorem after_lt {E:List (List Int)} {K N p:Nat} (h:EdOK E K N) (hp:p<N) {rs:List Int} (hq:reqsB K rs):∀ k,k≤rs.length→afterE E K p (rs.take k)<N
  | 0,_=>by simpa [afterE] using hp
  | k+1,hk=>by
    have hk':k<rs.length:=by omega
    obtain ⟨r,h1,h2⟩:=hq.at hk'
    rw [after_take hk',h1,Int.toNat_natCast]
    exact (toE_at h (after_lt h hp hq k (by omega)) h2).2
theorem edge_d {L E:List (List Int)} {K N:Nat} (h:EdOK E K N) {i r:Nat} (hi:i<N) (hr:r<K):Does Tryz.prog 101 [prX L E K,.int i,.int r] (.imm (fourE (E.getD (i*K+r) []))):=by
  obtain ⟨hj,hm⟩:=h.at hi hr
  have hk:=h.k
  have hn:=h.n
  have e1:(i:Int)*(K:Int)=((i*K:Nat):Int):=by simp
  have e2:((i*K:Nat):Int)+(r:Int)=((i*K+r:Nat):Int):=by simp
  refine spec_imm Tryz.func101 rfl Tryz.ntmps101 cfOK (fun _ _=>by kernel_rfl) rfl (Nat.le_of_ble_eq_true rfl) ?_
  intro M0 w0
  rw [Tryz.results101]
  refine amGo ?_
  (refine amB ?_;refine awp_anyM [0] 0 [] (by kernel_rfl) (by kernel_rfl) (by kernel_rfl) (by kernel_rfl) (by kernel_rfl) ?_;refine amM ?_)
  rw [e1,e2,Int.toNat_natCast]
  refine amGo ?_
  (simp only [xec,simprocAttr];refine ⟨_,⟨amK,rfl⟩,rfl,Imp.eq ?_⟩)
  rfl
theorem after_d {L E:List (List Int)} {K N:Nat} (h:EdOK E K N) {p:Nat} (hp:p<N) {rs:List Int} (hq:reqsB K rs) (hl:rs.length≤1000):Does Tryz.prog 54 [prX L E K,.int p,.sl (.ints rs)] (.imm (.int (afterE E K p rs))):=by
  refine spec_imm Tryz.func54 rfl Tryz.ntmps54 cfOK (fun _ _=>by kernel_rfl) rfl (Nat.le_of_ble_eq_true rfl) ?_
  intro M0 w0
  rw [Tryz.results54]
  (refine awp_fits 2 rfl fun hf => ?_;simp only [xp,simprocAttr] at hf;simp only [xf,simprocAttr] at hf)
  refine amGo ?_
  refine awp_rounds (α:=Nat) (fun k=>[(11,true,.int k),(1,true,.int (afterE E K p (rs.take k)))]) [0,9,10] (fun _=>[]) (fun k=>k≤rs.length) (fun k=>rs.length-k) 0 (by ((try simp only [xk]);(repeat (refine leK_cons ?_ ?_;first | (exact amE) | rotate_left));(try exact leK_nil rfl);(all_goals (try (simp only [xr,simprocAttr];try refine int_eq1 ?_))))) (Nat.zero_le _) fun k hk => ?_
  simp only [xr,simprocAttr]
  refine amGo ?_
  refine awp_cond amQ (fun hc => ?_) (fun hc => ?_)
  · have hc:=of_decide_eq_true hc
    have hk':k<rs.length:=by omega
    obtain ⟨r,h1,h2⟩:=hq.at hk'
    have h3:=after_lt h hp hq k hk
    refine amGo ?_
    rw [h1]
    ((try refine Or.inl ?_);refine ⟨_,(edge_d h h3 h2),amF,?_⟩;refine amC ?_)
    refine amGo ?_
    refine ⟨k+1,by omega,by omega,.inl ?_⟩
    ((try simp only [xk]);(repeat (refine leK_cons ?_ ?_;first | (exact amE) | rotate_left));(try exact leK_nil rfl);(all_goals (try (simp only [xr,simprocAttr];try refine int_eq1 ?_))))
    rw [after_take hk',h1,Int.toNat_natCast,(toE_at h h3 h2).1]
  · have hc:=of_decide_eq_false hc
    have hk':k=rs.length:=by omega
    subst hk'
    refine amGo ?_
    (simp only [xe,simprocAttr];refine ⟨_,rfl,rfl,Imp.eq ?_⟩)
    rw [List.take_length]
end Go.Proofs.YtlhdeofkhajigaaGreat
/- The gain of a walk along the edges of pairs, on the machine. Conditions: edges that lead to pairs, and gains that are not large. -/
set_option linter.all false
set_option linter.unusedSimpArgs false
set_option linter.unusedVariables false
namespace Go.Proofs.YtlhdeofkhajigaaGreat
open Go Go.RowKit Am

def gainE (a:Int×Int) (E:List (List Int)) (K:Nat):Nat→List Int→Int
  | _,[]=>0
  | p,r::rs=>gainC a.1 a.2 (E.getD (p*K+r.toNat) [])+gainE a E K (toE E K p r.toNat) rs
end Go.Proofs.YtlhdeofkhajigaaGreat
