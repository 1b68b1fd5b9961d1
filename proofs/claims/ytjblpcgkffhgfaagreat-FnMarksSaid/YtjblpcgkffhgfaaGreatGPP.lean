/- Plans, marks and their bounds: the plain laws. Conditions: those that each names. -/
import Derived.Test.YtjblpcgkffhgfaaGreatReqP
import Derived.ProofKit
set_option linter.all false
set_option linter.unusedSimpArgs false
set_option linter.unusedVariables false
namespace Go.Proofs.YtjblpcgkffhgfaaGreat

/-! ### plans -/
/-- the pages in the cache behind a request, in the order in which they came, where what leaves is told; none if it cannot be -/
def plStep (k:Int) (c:List Int) (page leaves:Int):Option (List Int) :=
  if c.contains page=true then (if 0≤leaves then none else some c)
  else if (c.contains leaves=false∧0≤leaves)∨k<(((c.eraseIdx (c.idxOf leaves))++[page]).length:Int) then none
  else some (c.eraseIdx (c.idxOf leaves)++[page])
structure PlS where
  now:List Int
  outs:List (List Int)
  faults:Nat
def plRun (k:Int) (xs ps:List Int):Nat→Option PlS
  | 0=>some ⟨[],[],0⟩
  | i+1=>match plRun k xs ps i with
    | none=>none
    | some s=>match plStep k s.now (xs.getD i 0) (ps.getD i 0) with
      | none=>none
      | some c=>some ⟨c,s.outs++[rs c],s.faults+(if s.now.contains (xs.getD i 0)=true then 0 else 1)⟩
theorem idx_out {c:List Int} {x:Int} (h:c.contains x=false):c.eraseIdx (c.idxOf x)=c:=by
  have h1:x ∉ c:=fun h2=>by rw [List.contains_iff_mem.2 h2] at h;cases h
  rw [List.idxOf_eq_length h1,List.eraseIdx_of_length_le (Nat.le_refl _)]
theorem erase_nodup {c:List Int} (h:c.Nodup) (i:Nat):(c.eraseIdx i).Nodup:=h.sublist (List.eraseIdx_sublist _ _)
theorem erase_mem {c:List Int} (h:c.Nodup) {x y:Int}:y∈c.eraseIdx (c.idxOf x)↔y∈c∧y≠x:=by
  by_cases hx:x∈c
  · rw [← List.erase_eq_eraseIdx_of_idxOf (by rfl:c.idxOf x=_)]
    rw [List.Nodup.mem_erase_iff h]
    exact And.comm
  · rw [List.idxOf_eq_length hx,List.eraseIdx_of_length_le (Nat.le_refl _)]
    refine ⟨fun h1=>⟨h1,fun e=>hx (e ▸ h1)⟩,And.left⟩
theorem rs_perm {c:List Int} (h:c.Nodup):(rs c).length=c.length:=by
  refine (List.Perm.length_eq ?_)
  refine (List.perm_ext_iff_of_nodup ?_ h).2 fun x=>rs_mem
  exact (rs_lt c).imp fun h=>by omega
theorem plStep_nodup {k:Int} {c c':List Int} {p l:Int} (h:c.Nodup) (hs:plStep k c p l=some c'):c'.Nodup:=by
  unfold plStep at hs
  split at hs
  · split at hs
    · cases hs
    · cases hs;exact h
  · rename_i hp
    split at hs
    · cases hs
    · cases hs
      rw [List.nodup_append]
      refine ⟨erase_nodup h _,by simp,fun x hx y hy => ?_⟩
      rw [List.mem_singleton] at hy
      subst hy
      intro e
      subst e
      exact hp (List.contains_iff_mem.2 ((erase_mem h).1 hx).1)
theorem plRun_nodup {k:Int} {xs ps:List Int}:∀ (i:Nat) (s:PlS),plRun k xs ps i=some s→s.now.Nodup
  | 0,s,h=>by cases h;exact List.nodup_nil
  | i+1,s,h=>by
    simp only [plRun] at h
    split at h
    · cases h
    · rename_i s0 h0
      split at h
      · cases h
      · rename_i c hc
        cases h
        exact plStep_nodup (plRun_nodup i s0 h0) hc
theorem plStep_len {k:Int} {c c':List Int} {p l:Int} (hk:(c.length:Int)≤k) (hs:plStep k c p l=some c'):(c'.length:Int)≤k:=by
  unfold plStep at hs
  split at hs
  · split at hs
    · cases hs
    · cases hs;exact hk
  · split at hs
    · cases hs
    · rename_i h
      cases hs
      exact Int.not_lt.1 fun h1=>h (.inr h1)
theorem plRun_len {k:Int} (hk:0≤k) {xs ps:List Int}:∀ (i:Nat) (s:PlS),plRun k xs ps i=some s→(s.now.length:Int)≤k∧s.outs.length=i∧s.faults≤i
  | 0,s,h=>by cases h;exact ⟨hk,rfl,Nat.le_refl _⟩
  | i+1,s,h=>by
    simp only [plRun] at h
    split at h
    · cases h
    · rename_i s0 h0
      have ih:=plRun_len hk i s0 h0
      split at h
      · cases h
      · rename_i c hc
        cases h
        refine ⟨plStep_len ih.1 hc,by simp [ih.2.1],?_⟩
        show s0.faults+_≤i+1
        split<;>omega
theorem plStep_short {k:Int} {c c':List Int} {p l:Int} (hs:plStep k c p l=some c'):c'.length≤c.length+1:=by
  unfold plStep at hs
  split at hs
  · split at hs
    · cases hs
    · cases hs;omega
  · split at hs
    · cases hs
    · cases hs
      have:(c.eraseIdx (c.idxOf l)).length≤c.length:=List.length_eraseIdx_le _ _
      rw [List.length_append]
      simpa using this
theorem plRun_short {k:Int} {xs ps:List Int}:∀ (i:Nat) (s:PlS),plRun k xs ps i=some s→s.now.length≤i
  | 0,s,h=>by cases h;exact Nat.le_refl _
  | i+1,s,h=>by
    simp only [plRun] at h
    split at h
    · cases h
    · rename_i s0 h0
      have ih:=plRun_short i s0 h0
      split at h
      · cases h
      · rename_i c hc
        cases h
        have:=plStep_short hc
        show c.length≤i+1
        omega
theorem plRun_dead {k:Int} {xs ps:List Int} {i:Nat} (h:plRun k xs ps i=none):∀ j,i≤j→plRun k xs ps j=none
  | 0,hj=>by
    obtain rfl:i=0:=by omega
    exact h
  | j+1,hj=>by
    rcases Nat.eq_or_lt_of_le hj with e | e
    · rw [← e];exact h
    · simp only [plRun,plRun_dead h j (by omega)]
/-- what is left of a rising list without a number -/
theorem rs_erase {c:List Int} (h:c.Nodup) (x:Int):(rs c).filter (fun y => !decide (y=x))=rs (c.eraseIdx (c.idxOf x)):=by
  refine (rs_of ((rs_lt c).filter _) fun y => ?_).symm
  rw [List.mem_filter,rs_mem,erase_mem h]
  simp
theorem rs_has (c:List Int) (x:Int):(rs c).contains x=c.contains x:=by
  rw [Bool.eq_iff_iff,List.contains_iff_mem,List.contains_iff_mem]
  exact rs_mem
theorem plRun_next {k:Int} {xs ps:List Int} {i:Nat} {s:PlS} (h:plRun k xs ps i=some s):plRun k xs ps (i+1)=match plStep k s.now (xs.getD i 0) (ps.getD i 0) with
    | none=>none
    | some c=>some ⟨c,s.outs++[rs c],s.faults+(if s.now.contains (xs.getD i 0)=true then 0 else 1)⟩:=by
  rw [plRun,h]
theorem plRun_pos {k:Int} {xs ps:List Int} (hx:∀ x∈xs,0≤x):∀ (i:Nat) (s:PlS),i≤xs.length→plRun k xs ps i=some s→∀ x∈s.now,0≤x
  | 0,s,_,h=>by cases h;simp
  | i+1,s,hi,h=>by
    simp only [plRun] at h
    split at h
    · cases h
    · rename_i s0 h0
      have ih:=plRun_pos hx i s0 (by omega) h0
      split at h
      · cases h
      · rename_i c hc
        cases h
        show ∀ x∈c,0≤x
        unfold plStep at hc
        split at hc
        · split at hc
          · cases hc
          · cases hc;exact ih
        · split at hc
          · cases hc
          · cases hc
            intro x h1
            rw [List.mem_append,List.mem_singleton] at h1
            rcases h1 with h1 | rfl
            · exact ih x (List.mem_of_mem_eraseIdx h1)
            · rw [getD_inL (by omega)]
              exact hx _ (List.getElem_mem _)
/-- a request with a page that is in the cache -/
theorem plStep_hit {k:Int} {c:List Int} {p l:Int} (h:c.contains p=true) (hl:¬ 0≤l):plStep k c p l=some c:=by
  unfold plStep
  rw [if_pos h,if_neg hl]
theorem plStep_hit0 {k:Int} {c:List Int} {p l:Int} (h:c.contains p=true) (hl:0≤l):plStep k c p l=none:=by
  unfold plStep
  rw [if_pos h,if_pos hl]
theorem plStep_miss0 {k:Int} {c:List Int} {p l:Int} (h:c.contains p=false) (hc:c.contains l=false) (hl:0≤l):plStep k c p l=none:=by
  unfold plStep
  rw [if_neg (by rw [h];decide),if_pos (.inl ⟨hc,hl⟩)]
theorem plStep_miss1 {k:Int} {c:List Int} {p l:Int} (h:c.contains p=false) (hk:k<(((c.eraseIdx (c.idxOf l))++[p]).length:Int)):plStep k c p l=none:=by
  unfold plStep
  rw [if_neg (by rw [h];decide),if_pos (.inr hk)]
theorem plStep_miss {k:Int} {c:List Int} {p l:Int} (h:c.contains p=false) (hc:c.contains l=true∨¬ 0≤l) (hk:¬ k<(((c.eraseIdx (c.idxOf l))++[p]).length:Int)):plStep k c p l=some (c.eraseIdx (c.idxOf l)++[p]):=by
  unfold plStep
  rw [if_neg (by rw [h];decide),if_neg]
  rintro (⟨h1,h2⟩ | h1)
  · rcases hc with h3 | h3
    · rw [h3] at h1;cases h1
    · exact h3 h2
  · exact hk h1
theorem rs_put {c:List Int} (x:Int):putL (rs c) x=rs (c++[x]):=(rs_snoc c x).symm
theorem not_has {c:List Int} {l:Int} (hp:∀ x∈c,0≤x) (hl:¬ 0≤l):c.contains l=false:=Bool.eq_false_iff.2 fun h=>hl (hp l (List.contains_iff_mem.1 h))
end Go.Proofs.YtjblpcgkffhgfaaGreat
/- Uses of pages, intervals, marks and their bounds: the plain laws. Conditions: those that each names. -/
set_option linter.all false
set_option linter.unusedSimpArgs false
set_option linter.unusedVariables false
namespace Go.Proofs.YtjblpcgkffhgfaaGreat

/-! ### the next use -/
/-- the first place behind a place with a page, the number of places if there is none -/
def useP (xs:List Int) (a:Nat) (p:Int):Nat:=a+1+(xs.drop (a+1)).idxOf p
theorem use_gt (xs:List Int) (a:Nat) (p:Int):a+1≤useP xs a p:=Nat.le_add_right _ _
theorem use_le {xs:List Int} {a:Nat} (p:Int) (h:a<xs.length):useP xs a p≤xs.length:=by
  have:=List.idxOf_le_length (l:=xs.drop (a+1)) (a:=p)
  rw [List.length_drop] at this
  unfold useP
  omega
theorem use_ne {xs:List Int} {a j:Nat} {p:Int} (h1:a<j) (h2:j<useP xs a p) (h3:j<xs.length):xs.getD j 0≠p:=by
  unfold useP at h2
  have h4:=List.not_of_lt_findIdx (p:=(· == p)) (xs:=xs.drop (a+1)) (i:=j-(a+1)) (by show _<List.idxOf p _;omega)
  rw [List.getElem_drop] at h4
  rw [getD_inL h3]
  intro e
  have e2:xs[a+1+(j-(a+1))]'(by omega)=p:=by rw [← e];congr 1;omega
  simp [e2] at h4
theorem use_at {xs:List Int} {a:Nat} {p:Int} (h:useP xs a p<xs.length):xs.getD (useP xs a p) 0=p:=by
  have h2:(xs.drop (a+1)).idxOf p<(xs.drop (a+1)).length:=by
    rw [List.length_drop]
    unfold useP at h
    omega
  have h3:=List.getElem_idxOf h2
  rw [List.getElem_drop] at h3
  rw [getD_inL h]
  exact h3
theorem use_eq {xs:List Int} {a i:Nat} {p:Int} (h1:a<i) (h2:i<xs.length) (h3:xs.getD i 0=p) (h4:∀ j,a<j→j<i→xs.getD j 0≠p):useP xs a p=i:=by
  have hg:=use_gt xs a p
  rcases Nat.lt_trichotomy (useP xs a p) i with h | h | h
  · exact absurd (use_at (by omega)) (h4 _ (by omega) h)
  · exact h
  · exact absurd h3 (use_ne h1 h h2)
/-- the next use of the page of a place, -1 for none -/
def nxI (xs:List Int) (i:Nat):Int:=if useP xs i (xs.getD i 0)<xs.length then (useP xs i (xs.getD i 0):Int) else -1
def nxL (xs:List Int):List Int:=(List.range xs.length).map (nxI xs)
theorem nxL_at {xs:List Int} {i:Nat} (h:i<xs.length):(nxL xs).getD i 0=nxI xs i:=by
  unfold nxL
  rw [List.getD_eq_getElem?_getD,List.getElem?_map,List.getElem?_range h]
  rfl
/-! ### the last use -/
/-- one more than the last place ahead of a place with a page, 0 if there is none -/
def lstN (xs:List Int) (p:Int):Nat→Nat
  | 0=>0
  | j+1=>if xs.getD j 0=p then j+1 else lstN xs p j
theorem lstN_le (xs:List Int) (p:Int):∀ i,lstN xs p i≤i
  | 0=>Nat.le_refl _
  | i+1=>by
    unfold lstN
    split
    · exact Nat.le_refl _
    · have:=lstN_le xs p i;omega
theorem lstN_at {xs:List Int} {p:Int}:∀ {i},lstN xs p i≠0→xs.getD (lstN xs p i-1) 0=p
  | 0,h=>absurd rfl h
  | i+1,h=>by
    unfold lstN at h ⊢
    split
    · rename_i h1
      exact h1
    · rename_i h1
      rw [if_neg h1] at h
      exact lstN_at h
theorem lstN_ne {xs:List Int} {p:Int}:∀ {i j},lstN xs p i≤j→j<i→xs.getD j 0≠p
  | 0,j,_,h=>absurd h (Nat.not_lt_zero _)
  | i+1,j,h1,h2=>by
    unfold lstN at h1
    split at h1
    · omega
    · rename_i h3
      rcases Nat.lt_or_ge j i with h4 | h4
      · exact lstN_ne h1 h4
      · obtain rfl:j=i:=by omega
        exact h3
/-- the last places as the program tells them -/
def lsL (xs:List Int) (k:Nat):List Int:=(List.range k).map fun i=>(lstN xs (xs.getD i 0) i:Int)-1
theorem lsL_at {xs:List Int} {k i:Nat} (h:i<k):(lsL xs k).getD i 0=(lstN xs (xs.getD i 0) i:Int)-1:=by
  unfold lsL
  rw [List.getD_eq_getElem?_getD,List.getElem?_map,List.getElem?_range h]
  rfl
theorem lsL_next (xs:List Int) (k:Nat):lsL xs (k+1)=lsL xs k++[(lstN xs (xs.getD k 0) k:Int)-1]:=by
  unfold lsL
  rw [List.range_succ,List.map_append]
  rfl
theorem lsL_len (xs:List Int) (k:Nat):(lsL xs k).length=k:=by simp [lsL]
/-- the next uses of which the first t places tell -/
def nxK (xs:List Int) (t:Nat):List Int:=(List.range xs.length).map fun j=>if useP xs j (xs.getD j 0)<t then (useP xs j (xs.getD j 0):Int) else -1
theorem nxK_len (xs:List Int) (t:Nat):(nxK xs t).length=xs.length:=by simp [nxK]
theorem nxK_zero (xs:List Int):nxK xs 0=List.replicate xs.length (-1):=by
  unfold nxK
  simp [List.map_const']
theorem nxK_end (xs:List Int):nxK xs xs.length=nxL xs:=rfl
theorem lst_use {xs:List Int} {t j:Nat} (ht:t<xs.length) (hj:j<xs.length):useP xs j (xs.getD j 0)=t↔lstN xs (xs.getD t 0) t=j+1:=by
  constructor
  · intro h
    have h1:xs.getD t 0=xs.getD j 0:=by
      have:=use_at (xs:=xs) (a:=j) (p:=xs.getD j 0) (by omega)
      rwa [h] at this
    have hg:=use_gt xs j (xs.getD j 0)
    have h2:=lstN_le xs (xs.getD t 0) t
    rcases Nat.lt_trichotomy (lstN xs (xs.getD t 0) t) (j+1) with h3 | h3 | h3
    · exact absurd h1.symm (lstN_ne (i:=t) (j:=j) (by omega) (by omega))
    · exact h3
    · have h4:=lstN_at (xs:=xs) (p:=xs.getD t 0) (i:=t) (by omega)
      rw [h1] at h4
      exact absurd (by rw [h1];exact h4) (use_ne (xs:=xs) (a:=j) (j:=lstN xs (xs.getD t 0) t-1) (p:=xs.getD j 0) (by omega) (by omega) (by omega))
  · intro h
    have h2:=lstN_le xs (xs.getD t 0) t
    have h1:=lstN_at (xs:=xs) (p:=xs.getD t 0) (i:=t) (by omega)
    rw [h,show j+1-1=j by omega] at h1
    refine use_eq (by omega) ht h1.symm fun m h3 h4 => ?_
    rw [h1]
    exact lstN_ne (i:=t) (j:=m) (by omega) h4
theorem nxK_set {xs:List Int} {t:Nat} (ht:t<xs.length) (h:lstN xs (xs.getD t 0) t≠0):(nxK xs t).set (lstN xs (xs.getD t 0) t-1) t=nxK xs (t+1):=by
  have hle:=lstN_le xs (xs.getD t 0) t
  refine List.ext_getElem (by simp [nxK]) fun j h1 h2 => ?_
  have hj:j<xs.length:=by simpa [nxK] using h2
  have hu:=lst_use ht hj
  rw [List.getElem_set]
  simp only [nxK,List.getElem_map,List.getElem_range]
  by_cases e:lstN xs (xs.getD t 0) t-1=j
  · have e2:useP xs j (xs.getD j 0)=t:=hu.2 (by omega)
    rw [if_pos e,e2,if_pos (by omega)]
  · have e2:useP xs j (xs.getD j 0)≠t:=fun h3=>e (by have:=hu.1 h3;omega)
    rw [if_neg e]
    by_cases h4:useP xs j (xs.getD j 0)<t
    · rw [if_pos h4,if_pos (by omega)]
    · rw [if_neg h4,if_neg (by omega)]
theorem nxK_same {xs:List Int} {t:Nat} (ht:t<xs.length) (h:lstN xs (xs.getD t 0) t=0):nxK xs (t+1)=nxK xs t:=by
  unfold nxK
  refine List.map_congr_left fun j hj => ?_
  rw [List.mem_range] at hj
  have hu:=lst_use ht hj
  have e2:useP xs j (xs.getD j 0)≠t:=fun h3=>by have:=hu.1 h3;omega
  by_cases h4:useP xs j (xs.getD j 0)<t
  · rw [if_pos h4,if_pos (by omega)]
  · rw [if_neg h4,if_neg (by omega)]
/-! ### sums -/
def sumN (f:Nat→Int):Nat→Int
  | 0=>0
  | n+1=>sumN f n+f n
theorem sumN_add (f g:Nat→Int):∀ n,sumN (fun i=>f i+g i) n=sumN f n+sumN g n
  | 0=>rfl
  | n+1=>by
    show sumN (fun i=>f i+g i) n+(f n+g n)=(sumN f n+f n)+(sumN g n+g n)
    rw [sumN_add f g n]
    omega
theorem sumN_congr {f g:Nat→Int}:∀ {n},(∀ i,i<n→f i=g i)→sumN f n=sumN g n
  | 0,_=>rfl
  | n+1,h=>by
    show sumN f n+f n=sumN g n+g n
    rw [sumN_congr fun i hi=>h i (by omega),h n (by omega)]
theorem sumN_bd {f:Nat→Int} {lo hi:Int}:∀ {n},(∀ i,i<n→lo≤f i∧f i≤hi)→(n:Int)*lo≤sumN f n∧sumN f n≤n*hi
  | 0,_=>by simp [sumN]
  | n+1,h=>by
    have h1:=sumN_bd (n:=n) fun i hi=>h i (by omega)
    have h2:=h n (by omega)
    have e1:((n+1:Nat):Int)*lo=n*lo+lo:=by rw [Int.natCast_add,Int.add_mul];simp
    have e2:((n+1:Nat):Int)*hi=n*hi+hi:=by rw [Int.natCast_add,Int.add_mul];simp
    show _≤sumN f n+f n∧sumN f n+f n≤_
    omega
/-! ### what a mark adds -/
/-- whether an interval takes one from what a mark adds behind a last mark -/
def hitI (xs:List Int) (last:Int) (m:Nat) (i:Nat):Int:=if (m:Int)≤i then 0 else if nxI xs i<0 then 1 else if (m:Int)<nxI xs i∧(i:Int)<last then 1 else 0
theorem hitI_bd (xs:List Int) (last:Int) (m i:Nat):0≤hitI xs last m i∧hitI xs last m i≤1:=by
  unfold hitI
  split
  · omega
  · split
    · omega
    · split<;>omega
def gn0 (k:Int) (xs:List Int) (m:Nat):Int:=((rs (xs.take (m+1))).length:Int)-k
def gnV (k:Int) (xs:List Int) (last:Int) (m:Nat):Int:=gn0 k xs m-sumN (hitI xs last m) xs.length
theorem rs_short {k n:Nat} {xs:List Int} (h:xs.length≤n):(rs (xs.take k)).length≤n:=by
  have h1:=rs_len (xs.take k)
  rw [List.length_take] at h1
  omega
theorem gn0_bd {k:Int} {xs:List Int} (h0:0≤k) (hk:k≤6) (hn:xs.length≤60) (m:Nat) : -6≤gn0 k xs m∧gn0 k xs m≤60:=by
  unfold gn0
  have:=rs_short (k:=m+1) hn
  omega
theorem hit_sum (xs:List Int) (hn:xs.length≤60) (last:Int) (m n:Nat) (h:n≤xs.length):0≤sumN (hitI xs last m) n∧sumN (hitI xs last m) n≤60:=by
  have:=sumN_bd (f:=hitI xs last m) (lo:=0) (hi:=1) (n:=n) fun i _=>hitI_bd xs last m i
  omega
theorem gnV_bd {k:Int} {xs:List Int} (h0:0≤k) (hk:k≤6) (hn:xs.length≤60) (last:Int) (m:Nat) : -66≤gnV k xs last m∧gnV k xs last m≤60:=by
  have h1:=gn0_bd h0 hk hn m
  have h2:=hit_sum xs hn last m xs.length (Nat.le_refl _)
  unfold gnV
  omega
/-! ### the bound of marks -/
/-- the mark ahead of a mark, -1 for none -/
def lastM (ms:List Int) (j:Nat):Int:=if j=0 then -1 else ms.getD (j-1) 0
def bdI (k:Int) (xs ms:List Int) (t:Nat):Int:=((rs xs).length:Int)+sumN (fun j=>gnV k xs (lastM ms j) (ms.getD j 0).toNat) t
def bdS (k:Int) (xs ms:List Int) (t:Nat):Int:=((rs xs).length:Int)+sumN (fun j=>gn0 k xs (ms.getD j 0).toNat) t
/-- how many marks an interval has -/
def cntI (xs ms:List Int) (i:Nat):Int:=((ms.filter fun m=>decide ((i:Int)<m∧(nxI xs i<0∨m<nxI xs i))).length:Int)
def cutI (xs:List Int) (i:Nat) (c:Int):Int:=if 0≤nxI xs i then max (c-1) 0 else c
theorem cntI_snoc (xs ms:List Int) (i:Nat) (m:Int):cntI xs (ms++[m]) i=cntI xs ms i+if (i:Int)<m∧(nxI xs i<0∨m<nxI xs i) then 1 else 0:=by
  unfold cntI
  rw [List.filter_append,List.length_append,Int.natCast_add]
  congr 1
  by_cases h:(i:Int)<m∧(nxI xs i<0∨m<nxI xs i)
  · rw [if_pos h];simp [h]
  · rw [if_neg h]
    rw [List.filter_cons_of_neg (by simpa using h)]
    rfl
theorem cntI_pos {xs ms:List Int} {i:Nat}:1≤cntI xs ms i↔∃ m∈ms,(i:Int)<m∧(nxI xs i<0∨m<nxI xs i):=by
  unfold cntI
  constructor
  · intro h
    have h1:0<(ms.filter fun m=>decide ((i:Int)<m∧(nxI xs i<0∨m<nxI xs i))).length:=by omega
    obtain ⟨m,hm⟩:=List.exists_mem_of_length_pos h1
    rw [List.mem_filter] at hm
    exact ⟨m,hm.1,of_decide_eq_true hm.2⟩
  · rintro ⟨m,h1,h2⟩
    have h3:m∈ms.filter fun m=>decide ((i:Int)<m∧(nxI xs i<0∨m<nxI xs i)):=List.mem_filter.2 ⟨h1,decide_eq_true h2⟩
    have:=List.length_pos_of_mem h3
    omega
theorem cntI_nn (xs ms:List Int) (i:Nat):0≤cntI xs ms i:=Int.natCast_nonneg _
/-- the marks of a list are right -/
structure MkOK (xs ms:List Int):Prop where
  lt:ms.Pairwise (·<·)
  low:∀ m∈ms,0≤m
  high:∀ m∈ms,m<(xs.length:Int)
theorem mk_at {xs ms:List Int} (h:MkOK xs ms) {t:Nat} (ht:t<ms.length):∃ m:Nat,ms.getD t 0=(m:Int)∧m<xs.length:=by
  have hm:ms.getD t 0∈ms:=by rw [getD_inL ht];exact List.getElem_mem _
  have h1:=h.low _ hm
  have h2:=h.high _ hm
  exact ⟨(ms.getD t 0).toNat,by omega,by omega⟩
theorem mk_last {xs ms:List Int} (h:MkOK xs ms) {t:Nat} (ht:t<ms.length):∀ m∈ms.take t,m≤lastM ms t∧lastM ms t<ms.getD t 0:=fun m hm=>by
  obtain ⟨i,hi,rfl⟩:=List.getElem_of_mem hm
  rw [List.getElem_take]
  rw [List.length_take] at hi
  have h0:t≠0:=by omega
  have hp:=List.pairwise_iff_getElem.1 h.lt
  have h1:(ms.getD (t-1) 0)=ms[t-1]'(by omega):=getD_inL (by omega)
  have h2:(ms.getD t 0)=ms[t]'ht:=getD_inL ht
  unfold lastM
  rw [if_neg h0,h1,h2]
  refine ⟨?_,hp (t-1) t (by omega) ht (by omega)⟩
  rcases Nat.lt_or_ge i (t-1) with h3 | h3
  · exact Int.le_of_lt (hp i (t-1) (by omega) (by omega) h3)
  · have:i=t-1:=by omega
    subst this
    exact Int.le_refl _
theorem cut_step {xs ms:List Int} (h:MkOK xs ms) {t:Nat} (ht:t<ms.length) {i:Nat}:cutI xs i (cntI xs (ms.take (t+1)) i)=cutI xs i (cntI xs (ms.take t) i)+hitI xs (lastM ms t) (ms.getD t 0).toNat i:=by
  obtain ⟨m,hm,hml⟩:=mk_at h ht
  have hl:=mk_last h ht
  rw [take_getD ht 0,cntI_snoc,hm,Int.toNat_natCast]
  rw [hm] at hl
  have hnn:=cntI_nn xs (ms.take t) i
  unfold hitI
  by_cases h1:(m:Int)≤i
  · rw [if_pos h1,if_neg (by omega),Int.add_zero,Int.add_zero]
  · rw [if_neg h1]
    by_cases h2:nxI xs i<0
    · rw [if_pos h2,if_pos ⟨by omega,.inl h2⟩]
      unfold cutI
      rw [if_neg (show ¬ 0≤nxI xs i by omega),if_neg (show ¬ 0≤nxI xs i by omega)]
    · rw [if_neg h2]
      unfold cutI
      rw [if_pos (show 0≤nxI xs i by omega),if_pos (show 0≤nxI xs i by omega)]
      by_cases h3:(m:Int)<nxI xs i
      · rw [if_pos ⟨by omega,.inr h3⟩]
        by_cases h4:(i:Int)<lastM ms t
        · rw [if_pos ⟨h3,h4⟩]
          have h0:t≠0:=fun e=>by rw [e] at h4;unfold lastM at h4;rw [if_pos rfl] at h4;omega
          have hmem:lastM ms t∈ms.take t:=by
            unfold lastM
            rw [if_neg h0,getD_inL (by omega)]
            rw [List.mem_take_iff_getElem]
            exact ⟨t-1,by omega,rfl⟩
          have h5:1≤cntI xs (ms.take t) i:=cntI_pos.2 ⟨_,hmem,h4,.inr (by have:=(hl _ hmem).2;omega)⟩
          omega
        · rw [if_neg fun h5=>h4 h5.2]
          have h5:¬ 1≤cntI xs (ms.take t) i:=fun h6=>by
            obtain ⟨x,hx,hx2,_⟩:=cntI_pos.1 h6
            have:=(hl x hx).1
            omega
          omega
      · rw [if_neg fun h4=>h4.2.elim h2 h3,if_neg fun h4=>h3 h4.1]
        omega
theorem bd_eq {k:Int} {xs ms:List Int} (h:MkOK xs ms):∀ t,t≤ms.length→bdI k xs ms t=bdS k xs ms t-sumN (fun i=>cutI xs i (cntI xs (ms.take t) i)) xs.length
  | 0,_=>by
    have e:sumN (fun i=>cutI xs i (cntI xs (ms.take 0) i)) xs.length=sumN (fun _=>0) xs.length:=sumN_congr fun i _=>by
      show (if 0≤nxI xs i then max ((0:Int)-1) 0 else 0)=0
      split<;>rfl
    have e0:∀ n,sumN (fun _=>0) n=0:=fun n=>by
      induction n with
      | zero=>rfl
      | succ n ih=>show sumN (fun _=>0) n+0=0;rw [ih];rfl
    rw [e,e0]
    show ((rs xs).length:Int)+0=(rs xs).length+0-0
    omega
  | t+1,ht=>by
    have ih:=bd_eq (k:=k) h t (by omega)
    have e:sumN (fun i=>cutI xs i (cntI xs (ms.take (t+1)) i)) xs.length=sumN (fun i=>cutI xs i (cntI xs (ms.take t) i)) xs.length+sumN (hitI xs (lastM ms t) (ms.getD t 0).toNat) xs.length:=by
      rw [← sumN_add]
      exact sumN_congr fun i _=>cut_step h (by omega)
    have e1:bdI k xs ms (t+1)=bdI k xs ms t+gnV k xs (lastM ms t) (ms.getD t 0).toNat:=by
      unfold bdI
      show _+(_+gnV k xs (lastM ms t) (ms.getD t 0).toNat)=_
      omega
    have e2:bdS k xs ms (t+1)=bdS k xs ms t+gn0 k xs (ms.getD t 0).toNat:=by
      unfold bdS
      show _+(_+gn0 k xs (ms.getD t 0).toNat)=_
      omega
    rw [e,e1,e2,ih]
    unfold gnV
    omega
theorem mk_len {xs ms:List Int} (h:MkOK xs ms):ms.length≤xs.length:=by
  have key:∀ t,t<ms.length→(t:Int)≤ms.getD t 0:=fun t=>by
    induction t with
    | zero=>intro ht;have:=h.low (ms.getD 0 0) (by rw [getD_inL ht];exact List.getElem_mem _);exact this
    | succ t ih =>
      intro ht
      have h1:=ih (by omega)
      have h2:=List.pairwise_iff_getElem.1 h.lt t (t+1) (by omega) ht (by omega)
      rw [getD_inL (by omega)] at h1
      rw [getD_inL ht]
      omega
  by_cases h0:ms.length=0
  · omega
  · have h1:=key (ms.length-1) (by omega)
    have h2:=h.high (ms.getD (ms.length-1) 0) (by rw [getD_inL (by omega)];exact List.getElem_mem _)
    omega
theorem bdI_bd {k:Int} {xs ms:List Int} (h0:0≤k) (hk:k≤6) (hn:xs.length≤60) {t:Nat} (ht:t≤60) : -4000≤bdI k xs ms t∧bdI k xs ms t≤4000:=by
  have h1:=sumN_bd (f:=fun j=>gnV k xs (lastM ms j) (ms.getD j 0).toNat) (lo := -66) (hi:=60) (n:=t) fun i _=>gnV_bd h0 hk hn _ _
  have h2:=rs_len xs
  unfold bdI
  omega
theorem bdS_bd {k:Int} {xs ms:List Int} (h0:0≤k) (hk:k≤6) (hn:xs.length≤60) {t:Nat} (ht:t≤60) : -4000≤bdS k xs ms t∧bdS k xs ms t≤4000:=by
  have h1:=sumN_bd (f:=fun j=>gn0 k xs (ms.getD j 0).toNat) (lo := -6) (hi:=60) (n:=t) fun i _=>gn0_bd h0 hk hn _
  have h2:=rs_len xs
  unfold bdS
  omega
theorem cntI_bd (xs ms:List Int) (i:Nat):cntI xs ms i≤(ms.length:Int):=by
  unfold cntI
  have:=List.length_filter_le (fun m=>decide ((i:Int)<m∧(nxI xs i<0∨m<nxI xs i))) ms
  omega
theorem cutI_bd (xs ms:List Int) (i:Nat):0≤cutI xs i (cntI xs ms i)∧cutI xs i (cntI xs ms i)≤(ms.length:Int):=by
  have h1:=cntI_bd xs ms i
  have h2:=cntI_nn xs ms i
  unfold cutI
  split<;>omega
end Go.Proofs.YtjblpcgkffhgfaaGreat
/- The marks with the greatest bound: the plain law. Conditions: none. -/
set_option linter.all false
set_option linter.unusedSimpArgs false
set_option linter.unusedVariables false
namespace Go.Proofs.YtjblpcgkffhgfaaGreat

/-! ### sets of pages as bits -/
theorem bit_sub {s p x:Nat} (h:s.testBit p=true):(s-2 ^ p).testBit x=(s.testBit x && decide (x≠p)):=by
  have e0:s=2 ^ (p+1)*(s / 2 ^ (p+1))+s % 2 ^ (p+1):=(Nat.div_add_mod _ _).symm
  have hlt:s % 2 ^ (p+1)<2 ^ (p+1):=Nat.mod_lt _ (Nat.two_pow_pos _)
  have hb:(s % 2 ^ (p+1)).testBit p=true:=by rw [Nat.testBit_mod_two_pow];simp [h]
  have hge:2 ^ p≤s % 2 ^ (p+1):=Nat.ge_two_pow_of_testBit hb
  have e2:2 ^ (p+1)=2 ^ p+2 ^ p:=by rw [Nat.pow_succ];omega
  have er:s % 2 ^ (p+1)=2 ^ p+(s % 2 ^ (p+1)-2 ^ p):=by omega
  have e1:s-2 ^ p=2 ^ (p+1)*(s / 2 ^ (p+1))+(s % 2 ^ (p+1)-2 ^ p):=by omega
  rw [e1,Nat.testBit_two_pow_mul_add _ (by omega)]
  by_cases hx:x<p+1
  · rw [if_pos hx]
    have e3:s.testBit x=(s % 2 ^ (p+1)).testBit x:=by rw [Nat.testBit_mod_two_pow];simp [hx]
    rw [e3,er]
    rcases Nat.lt_or_ge x p with h1 | h1
    · rw [Nat.testBit_two_pow_add_gt h1]
      simp [show x≠p by omega]
    · obtain rfl:x=p:=by omega
      have:(s % 2 ^ (x+1)-2 ^ x).testBit x=false:=Nat.testBit_lt_two_pow (by omega)
      simp [this]
  · rw [if_neg hx]
    have e3:s.testBit x=(s / 2 ^ (p+1)).testBit (x-(p+1)):=by
      rw [Nat.testBit_div_two_pow]
      congr 1
      omega
    rw [e3]
    simp [show x≠p by omega]
def begS (s p:Nat):Nat:=if s.testBit p then s-2 ^ p else s
theorem begS_lt {s p n:Nat} (h:s<2 ^ n):begS s p<2 ^ n:=by
  unfold begS
  split
  · exact Nat.lt_of_le_of_lt (Nat.sub_le _ _) h
  · exact h
theorem or_bit (s t x:Nat):(s ||| 2 ^ t).testBit x=(s.testBit x || decide (t=x)):=by
  rw [Nat.testBit_or,Nat.testBit_two_pow]
/-! ### the reference's marks -/
/-- what a mark adds and the set behind it: the first t pages -/
def mkT (k:Int) (xs:List Int) (i m:Nat):Nat→Int×Nat
  | 0=>(gn0 k xs i,m)
  | t+1=>if (t:Int)=xs.getD i 0∨(t:Int) ∉ xs.take i then mkT k xs i m t else if (t:Int) ∉ xs.drop (i+1)∨(mkT k xs i m t).2.testBit t=true then ((mkT k xs i m t).1-1,(mkT k xs i m t).2) else ((mkT k xs i m t).1,(mkT k xs i m t).2 ||| 2 ^ t)
theorem mkT_lt {k:Int} {xs:List Int} {i m n:Nat} (h:m<2 ^ n):∀ {t},t≤n→(mkT k xs i m t).2<2 ^ n
  | 0,_=>h
  | t+1,ht=>by
    have ih:=mkT_lt (k:=k) (xs:=xs) (i:=i) h (t:=t) (by omega)
    unfold mkT
    split
    · exact ih
    · split
      · exact ih
      · exact Nat.or_lt_two_pow ih (Nat.pow_lt_pow_right (by omega) (by omega))
theorem mkT_bit (k:Int) (xs:List Int) (i m:Nat):∀ t x,(mkT k xs i m t).2.testBit x=true↔m.testBit x=true∨(x<t∧(x:Int)≠xs.getD i 0∧(x:Int)∈xs.take i∧(x:Int)∈xs.drop (i+1))
  | 0,x=>by show m.testBit x=true↔_;simp
  | t+1,x=>by
    have ih:=mkT_bit k xs i m t x
    have iht:=mkT_bit k xs i m t t
    unfold mkT
    by_cases h1:(t:Int)=xs.getD i 0∨(t:Int) ∉ xs.take i
    · rw [if_pos h1,ih]
      refine or_congr Iff.rfl ⟨fun h=>⟨by omega,h.2⟩,fun h=>⟨?_,h.2⟩⟩
      rcases Nat.lt_or_ge x t with h2 | h2
      · exact h2
      · obtain rfl:x=t:=by omega
        exact absurd h1 (fun h5=>h5.elim (fun e=>h.2.1 e) fun e=>e h.2.2.1)
    · rw [if_neg h1]
      simp only [not_or,Classical.not_not] at h1
      by_cases h3:(t:Int) ∉ xs.drop (i+1)∨(mkT k xs i m t).2.testBit t=true
      · rw [if_pos h3]
        show (mkT k xs i m t).2.testBit x=true↔_
        rw [ih]
        constructor
        · rintro (h | h)
          · exact .inl h
          · exact .inr ⟨by omega,h.2⟩
        · rintro (h | h)
          · exact .inl h
          · rcases Nat.lt_or_ge x t with h2 | h2
            · exact .inr ⟨h2,h.2⟩
            · obtain rfl:x=t:=by omega
              rcases h3 with h3 | h3
              · exact absurd h.2.2.2 h3
              · rcases iht.1 h3 with h4 | h4
                · exact .inl h4
                · omega
      · rw [if_neg h3]
        simp only [not_or,Classical.not_not] at h3
        show ((mkT k xs i m t).2 ||| 2 ^ t).testBit x=true↔_
        rw [or_bit,Bool.or_eq_true,ih,decide_eq_true_eq]
        constructor
        · rintro ((h | h) | rfl)
          · exact .inl h
          · exact .inr ⟨by omega,h.2⟩
          · exact .inr ⟨by omega,h1.1,h1.2,h3.1⟩
        · rintro (h | h)
          · exact .inl (.inl h)
          · rcases Nat.lt_or_ge x t with h2 | h2
            · exact .inl (.inr ⟨h2,h.2⟩)
            · exact .inr (by omega)
/-- whether a page takes one from what a mark adds -/
def hitX (xs:List Int) (i m x:Nat):Int:=if (x:Int)≠xs.getD i 0∧(x:Int)∈xs.take i∧((x:Int) ∉ xs.drop (i+1)∨m.testBit x=true) then 1 else 0
theorem mkT_gain (k:Int) (xs:List Int) (i m:Nat):∀ t,(mkT k xs i m t).1=gn0 k xs i-sumN (hitX xs i m) t
  | 0=>by show gn0 k xs i=gn0 k xs i-0;omega
  | t+1=>by
    have ih:=mkT_gain k xs i m t
    have hb:=mkT_bit k xs i m t t
    have hb':(mkT k xs i m t).2.testBit t=true↔m.testBit t=true:=⟨fun h=>(hb.1 h).elim id fun h2=>absurd h2.1 (Nat.lt_irrefl _),fun h=>hb.2 (.inl h)⟩
    show (mkT k xs i m (t+1)).1=gn0 k xs i-(sumN (hitX xs i m) t+hitX xs i m t)
    unfold mkT hitX
    by_cases h1:(t:Int)=xs.getD i 0∨(t:Int) ∉ xs.take i
    · rw [if_pos h1,if_neg (fun h=>h1.elim (fun e=>h.1 e) fun e=>e h.2.1),ih]
      unfold hitX
      omega
    · rw [if_neg h1]
      simp only [not_or,Classical.not_not] at h1
      by_cases h3:(t:Int) ∉ xs.drop (i+1)∨(mkT k xs i m t).2.testBit t=true
      · rw [if_pos h3,if_pos ⟨h1.1,h1.2,h3.imp id hb'.1⟩]
        show (mkT k xs i m t).1-1=_
        rw [ih]
        unfold hitX
        omega
      · rw [if_neg h3,if_neg fun h=>h3 (h.2.2.imp id hb'.2)]
        show (mkT k xs i m t).1=_
        rw [ih]
        unfold hitX
        omega
/-- the most that marks at the last d places add, with a set of pages ahead of them -/
def gS (k:Int) (n:Nat) (xs:List Int):Nat→Nat→Int
  | 0,_=>0
  | d+1,s =>
    let m:=begS s (xs.getD (xs.length-(d+1)) 0).toNat
    let r:=mkT k xs (xs.length-(d+1)) m n
    max (gS k n xs d m) (r.1+gS k n xs d r.2)
def outS (k:Int) (n:Nat) (xs:List Int):Nat→Nat→List Int
  | 0,_=>[]
  | d+1,s =>
    let m:=begS s (xs.getD (xs.length-(d+1)) 0).toNat
    let r:=mkT k xs (xs.length-(d+1)) m n
    if 0<gS k n xs (d+1) s then (if r.1+gS k n xs d r.2=gS k n xs (d+1) s then ((xs.length-(d+1):Nat):Int)::outS k n xs d r.2 else outS k n xs d m) else []
theorem use_drop {xs:List Int} {j:Nat} {p:Int} (hj:j<xs.length):p∈xs.drop (j+1)↔useP xs j p<xs.length:=by
  unfold useP
  rw [← List.idxOf_lt_length_iff,List.length_drop]
  omega
/-- pages are below n -/
structure PgOK (n:Nat) (xs:List Int):Prop where
  low:∀ i,i<xs.length→0≤xs.getD i 0
  high:∀ i,i<xs.length→xs.getD i 0<(n:Int)
end Go.Proofs.YtjblpcgkffhgfaaGreat
/- No possible plan has fewer faults than a bound of marks: the plain law. Conditions: plans that are possible, marks that are right. -/
set_option linter.all false
set_option linter.unusedSimpArgs false
set_option linter.unusedVariables false
namespace Go.Proofs.YtjblpcgkffhgfaaGreat

/-! ### sums -/
theorem sumM_swap (h:Nat→Nat→Int) (n:Nat):∀ m,sumN (fun i=>sumN (h i) n) m=sumN (fun j=>sumN (fun i=>h i j) m) n
  | 0=>by
    have:∀ n,sumN (fun _=>0) n=0:=fun n=>by
      induction n with
      | zero=>rfl
      | succ n ih=>show sumN (fun _=>0) n+0=0;omega
    exact (this n).symm
  | m+1=>by
    show sumN (fun i=>sumN (h i) n) m+sumN (h m) n=sumN (fun j=>sumN (fun i=>h i j) m+h m j) n
    rw [sumN_add,sumM_swap h n m]
theorem sumM_pick (f:Nat→Int) (u:Nat):∀ n,sumN (fun j=>if u=j then f j else 0) n=if u<n then f u else 0
  | 0=>rfl
  | n+1=>by
    show sumN _ n+(if u=n then f n else 0)=_
    rw [sumM_pick f u n]
    by_cases h:u=n
    · subst h
      rw [if_neg (by omega),if_pos rfl,if_pos (by omega)]
      omega
    · rw [if_neg h]
      by_cases h2:u<n
      · rw [if_pos h2,if_pos (by omega)];omega
      · rw [if_neg h2,if_neg (by omega)];rfl
theorem sumM_one (c:Int) (L:Nat) (n:Nat):sumN (fun i=>if L=i+1 then c else 0) n=if L≠0∧L≤n then c else 0:=by
  induction n with
  | zero=>rw [if_neg (by omega)];rfl
  | succ n ih =>
    show sumN _ n+(if L=n+1 then c else 0)=_
    rw [ih]
    by_cases h:L=n+1
    · rw [if_pos h,if_neg (by omega),if_pos (by omega)];omega
    · rw [if_neg h]
      by_cases h2:L≠0∧L≤n
      · rw [if_pos h2,if_pos (by omega)];omega
      · rw [if_neg h2,if_neg (by omega)];rfl
theorem sumM_ext {f:Nat→Int} {a:Nat} (h:∀ i,a≤i→f i=0):∀ d,sumN f (a+d)=sumN f a
  | 0=>rfl
  | d+1=>by
    show sumN f (a+d)+f (a+d)=_
    rw [sumM_ext h d,h _ (by omega),Int.add_zero]
theorem sumM_le {f g:Nat→Int}:∀ {n},(∀ i,i<n→f i≤g i)→sumN f n≤sumN g n
  | 0,_=>Int.le_refl _
  | n+1,h=>by
    have h1:=sumM_le (n:=n) fun i hi=>h i (by omega)
    have h2:=h n (by omega)
    show sumN f n+f n≤sumN g n+g n
    omega
/-! ### different pages of a beginning -/
theorem lstM_mem {xs:List Int} {p:Int}:∀ {j:Nat},j≤xs.length→(p∈xs.take j↔lstN xs p j≠0)
  | 0,_=>by simp [lstN]
  | j+1,h=>by
    rw [List.take_succ_eq_append_getElem (show j<xs.length by omega),List.mem_append,List.mem_singleton,lstM_mem (by omega)]
    rw [show lstN xs p (j+1)=if xs.getD j 0=p then j+1 else lstN xs p j from rfl,getD_inL (show j<xs.length by omega)]
    by_cases e:xs[j]=p
    · rw [if_pos e]
      exact ⟨fun _=>by omega,fun _ => .inr e.symm⟩
    · rw [if_neg e]
      exact ⟨fun h=>h.resolve_right fun e2=>e e2.symm,.inl⟩
theorem put_same {l:List Int} (h:l.Pairwise (·<·)) {n:Int} (hn:n∈l):putL l n=l:=lt_ext (putL_lt h n) h fun x=>by
  rw [putL_mem]
  exact ⟨fun hx=>hx.elim id fun e=>e ▸ hn,.inl⟩
theorem lt_nodup {l:List Int} (h:l.Pairwise (·<·)):l.Nodup:=h.imp fun h=>by omega
theorem put_perm {l:List Int} (h:l.Pairwise (·<·)) {n:Int} (hn:n ∉ l):(putL l n).Perm (n::l) :=
  (List.perm_ext_iff_of_nodup (lt_nodup (putL_lt h n)) (List.nodup_cons.2 ⟨hn,lt_nodup h⟩)).2 fun x=>by
    rw [putL_mem,List.mem_cons]
    exact Or.comm
theorem rs_step {xs:List Int} {j:Nat} (hj:j<xs.length) (Q:Int→Bool):(((rs (xs.take (j+1))).filter Q).length:Int)=((rs (xs.take j)).filter Q).length+if lstN xs (xs.getD j 0) j=0∧Q (xs.getD j 0)=true then 1 else 0:=by
  have e:xs.take (j+1)=xs.take j++[xs.getD j 0]:=by rw [List.take_succ_eq_append_getElem hj,getD_inL hj]
  rw [e,rs_snoc]
  generalize hx:xs.getD j 0=x
  have hm:=lstM_mem (xs:=xs) (p:=x) (j:=j) (by omega)
  by_cases h:lstN xs x j=0
  · have hn:x ∉ rs (xs.take j):=fun h1=>(hm.1 (rs_mem.1 h1)) h
    have hp:=((put_perm (rs_lt (xs.take j)) hn).filter Q).length_eq
    rw [hp,List.filter_cons]
    cases hq:Q x
    · rw [if_neg (by simp),if_neg (by simp)];omega
    · rw [if_pos rfl,if_pos ⟨h,rfl⟩,List.length_cons];omega
  · rw [put_same (rs_lt _) (rs_mem.2 (hm.2 h)),if_neg (fun h1=>h h1.1)]
    omega
theorem rs_first (xs:List Int):∀ j,j≤xs.length→((rs (xs.take j)).length:Int)=sumN (fun i=>if lstN xs (xs.getD i 0) i=0 then 1 else 0) j
  | 0,_=>by rw [List.take_zero,rs_nil];rfl
  | j+1,h=>by
    have h1:=rs_step (xs:=xs) (j:=j) (by omega) fun _=>true
    have h2:=rs_first xs j (by omega)
    rw [List.filter_eq_self.2 fun _ _=>rfl,List.filter_eq_self.2 fun _ _=>rfl] at h1
    simp only [and_true] at h1
    show _=sumN _ j+_
    rw [h1,h2]
/-- pages of a beginning, each counted at its last place -/
theorem rs_last (xs:List Int) (Q:Int→Bool):∀ j,j≤xs.length→(((rs (xs.take j)).filter Q).length:Int)=sumN (fun i=>if j≤useP xs i (xs.getD i 0)∧Q (xs.getD i 0)=true then 1 else 0) j
  | 0,_=>by rw [List.take_zero,rs_nil];rfl
  | j+1,h=>by
    have h1:=rs_step (xs:=xs) (j:=j) (by omega) Q
    have h2:=rs_last xs Q j (by omega)
    have hj:j<xs.length:=by omega
    have e1:sumN (fun i=>if j≤useP xs i (xs.getD i 0)∧Q (xs.getD i 0)=true then (1:Int) else 0) j=sumN (fun i=>(if j+1≤useP xs i (xs.getD i 0)∧Q (xs.getD i 0)=true then (1:Int) else 0)+if lstN xs (xs.getD j 0) j=i+1 then (if Q (xs.getD j 0)=true then 1 else 0) else 0) j:=sumN_congr fun i hi=>by
      have hu:=lst_use (xs:=xs) (t:=j) (j:=i) hj (by omega)
      by_cases h3:useP xs i (xs.getD i 0)=j
      · have h4:=use_at (xs:=xs) (a:=i) (p:=xs.getD i 0) (by omega)
        rw [h3] at h4
        rw [if_pos (hu.1 h3),h4,h3]
        cases hq:Q (xs.getD i 0)
        · simp
        · rw [if_pos ⟨Nat.le_refl _,rfl⟩,if_neg (by omega),if_pos rfl];rfl
      · rw [if_neg (c:=lstN xs (xs.getD j 0) j=i+1) (fun h4=>h3 (hu.2 h4)),Int.add_zero]
        by_cases h4:j≤useP xs i (xs.getD i 0)∧Q (xs.getD i 0)=true
        · rw [if_pos h4,if_pos ⟨by omega,h4.2⟩]
        · rw [if_neg h4,if_neg (fun h5=>h4 ⟨by omega,h5.2⟩)]
    rw [sumN_add,sumM_one] at e1
    have hl:=lstN_le xs (xs.getD j 0) j
    have hg:=use_gt xs j (xs.getD j 0)
    show _=sumN _ j+(if j+1≤useP xs j (xs.getD j 0)∧Q (xs.getD j 0)=true then (1:Int) else 0)
    rw [h1,h2,e1]
    cases hq:Q (xs.getD j 0)
    · simp
    · by_cases h5:lstN xs (xs.getD j 0) j=0
      · rw [if_neg (c:=lstN xs (xs.getD j 0) j≠0∧lstN xs (xs.getD j 0) j≤j) (by omega),if_pos (c:=lstN xs (xs.getD j 0) j=0∧true=true) ⟨h5,rfl⟩,if_pos (c:=j+1≤useP xs j (xs.getD j 0)∧true=true) ⟨hg,rfl⟩];omega
      · rw [if_pos (c:=lstN xs (xs.getD j 0) j≠0∧lstN xs (xs.getD j 0) j≤j) ⟨h5,hl⟩,if_neg (c:=lstN xs (xs.getD j 0) j=0∧true=true) (fun h6=>h5 h6.1),if_pos (c:=j+1≤useP xs j (xs.getD j 0)∧true=true) ⟨hg,rfl⟩,if_pos rfl];omega
theorem nodupM_sub:∀ {l c:List Int},l.Nodup→(∀ x∈l,x∈c)→l.length≤c.length
  | [],_,_,_=>Nat.zero_le _
  | x::l,c,hl,h=>by
    have h1:=List.nodup_cons.1 hl
    have hx:=h x (by simp)
    have h2:=nodupM_sub (l:=l) (c:=c.erase x) h1.2 fun y hy=>(List.mem_erase_of_ne fun e=>h1.1 (by rw [← e];exact hy)).2 (h y (by simp [hy]))
    rw [List.length_erase_of_mem hx] at h2
    have:=List.length_pos_of_mem hx
    rw [List.length_cons]
    omega
/-! ### runs of plans -/
theorem step_has {k:Int} {c c':List Int} {p l:Int} (h:plStep k c p l=some c'):p∈c'∧(∀ y∈c',y∈c∨y=p):=by
  unfold plStep at h
  split at h
  · rename_i hp
    split at h
    · cases h
    · cases h
      exact ⟨List.contains_iff_mem.1 hp,fun y hy => .inl hy⟩
  · split at h
    · cases h
    · cases h
      refine ⟨by simp,fun y hy => ?_⟩
      rcases List.mem_append.1 hy with hy | hy
      · exact .inl (List.mem_of_mem_eraseIdx hy)
      · exact .inr (List.mem_singleton.1 hy)
/-- the pages in the cache ahead of a place -/
def nwP (k:Int) (xs ps:List Int) (i:Nat):List Int:=match plRun k xs ps i with
  | some s=>s.now
  | none=>[]
def flP (k:Int) (xs ps:List Int) (i:Nat):Int:=if (nwP k xs ps i).contains (xs.getD i 0)=true then 0 else 1
section
variable {k:Int} {xs ps:List Int} {s:PlS}
theorem run_all (h:plRun k xs ps xs.length=some s) {i:Nat} (hi:i≤xs.length):∃ t,plRun k xs ps i=some t:=by
  cases e:plRun k xs ps i with
  | some t=>exact ⟨t,rfl⟩
  | none=>rw [plRun_dead e _ hi] at h;cases h
theorem nw_step (h:plRun k xs ps xs.length=some s) {i:Nat} (hi:i<xs.length):plStep k (nwP k xs ps i) (xs.getD i 0) (ps.getD i 0)=some (nwP k xs ps (i+1)):=by
  obtain ⟨t,ht⟩:=run_all h (Nat.le_of_lt hi)
  obtain ⟨t2,ht2⟩:=run_all h (show i+1≤xs.length from hi)
  have h1:=plRun_next ht
  rw [ht2] at h1
  unfold nwP
  rw [ht,ht2]
  split at h1
  · cases h1
  · rename_i c hc
    cases h1
    exact hc
theorem nw_sub (h:plRun k xs ps xs.length=some s):∀ i,i≤xs.length→∀ y∈nwP k xs ps i,y∈xs.take i
  | 0,_,y,hy=>by simp [nwP,plRun] at hy
  | i+1,hi,y,hy=>by
    have h1:=(step_has (nw_step h hi)).2 y hy
    rw [List.take_succ_eq_append_getElem hi,List.mem_append,List.mem_singleton,← getD_inL (d:=0) hi]
    exact h1.imp (nw_sub h i (by omega) y) id
theorem nw_keep (h:plRun k xs ps xs.length=some s) {a:Nat} {p:Int} (hp:p ∉ nwP k xs ps a):∀ d,a+d≤xs.length→(∀ j,a≤j→j<a+d→xs.getD j 0≠p)→p ∉ nwP k xs ps (a+d)
  | 0,_,_=>hp
  | d+1,hd,hj=>fun hm=>by
    rcases (step_has (nw_step h (show a+d<xs.length by omega))).2 p hm with h1 | h1
    · exact nw_keep h hp d (by omega) (fun j h2 h3=>hj j h2 (by omega)) h1
    · exact hj (a+d) (by omega) (by omega) h1.symm
theorem fl_sum (h:plRun k xs ps xs.length=some s):∀ i,i≤xs.length→∀ t,plRun k xs ps i=some t→(t.faults:Int)=sumN (flP k xs ps) i
  | 0,_,t,ht=>by cases ht;rfl
  | i+1,hi,t,ht=>by
    obtain ⟨t0,h0⟩:=run_all h (show i≤xs.length by omega)
    have ih:=fl_sum h i (by omega) t0 h0
    have h1:=plRun_next h0
    rw [ht] at h1
    have h2:flP k xs ps i=if t0.now.contains (xs.getD i 0)=true then 0 else 1:=by
      unfold flP nwP
      rw [h0]
    show _=sumN _ i+flP k xs ps i
    rw [h2]
    split at h1
    · cases h1
    · cases h1
      dsimp only
      rw [← ih]
      split<;>simp
theorem fl_bd (k:Int) (xs ps:List Int) (i:Nat):0≤flP k xs ps i∧flP k xs ps i≤1:=by
  unfold flP
  split<;>omega
/-- faults: those of first requests, and those at the ends of intervals -/
theorem fl_split (h:plRun k xs ps xs.length=some s):(s.faults:Int)=((rs xs).length:Int)+sumN (fun i=>if 0≤nxI xs i then flP k xs ps (nxI xs i).toNat else 0) xs.length:=by
  rw [fl_sum h xs.length (Nat.le_refl _) s h]
  have h1:=rs_first xs xs.length (Nat.le_refl _)
  rw [List.take_length] at h1
  rw [h1]
  have e1:sumN (flP k xs ps) xs.length=sumN (fun j=>(if lstN xs (xs.getD j 0) j=0 then (1:Int) else 0)+sumN (fun i=>if useP xs i (xs.getD i 0)=j then flP k xs ps j else 0) xs.length) xs.length:=sumN_congr fun j hj=>by
    have e2:sumN (fun i=>if useP xs i (xs.getD i 0)=j then flP k xs ps j else 0) xs.length=sumN (fun i=>if lstN xs (xs.getD j 0) j=i+1 then flP k xs ps j else 0) xs.length:=sumN_congr fun i hi=>by
      have hu:=lst_use (xs:=xs) (t:=j) (j:=i) hj hi
      by_cases h3:useP xs i (xs.getD i 0)=j
      · rw [if_pos h3,if_pos (hu.1 h3)]
      · rw [if_neg h3,if_neg fun h4=>h3 (hu.2 h4)]
    rw [e2,sumM_one]
    have hl:=lstN_le xs (xs.getD j 0) j
    by_cases h0:lstN xs (xs.getD j 0) j=0
    · rw [if_pos h0,if_neg (by omega)]
      unfold flP
      rw [if_neg]
      · rfl
      · intro hc
        exact (lstM_mem (by omega)).1 (nw_sub h j (by omega) _ (List.contains_iff_mem.1 hc)) h0
    · rw [if_neg h0,if_pos ⟨h0,by omega⟩]
      omega
  rw [e1,sumN_add]
  congr 1
  rw [← sumM_swap (fun i j=>if useP xs i (xs.getD i 0)=j then flP k xs ps j else 0)]
  refine sumN_congr fun i hi => ?_
  rw [sumM_pick]
  unfold nxI
  by_cases h3:useP xs i (xs.getD i 0)<xs.length
  · rw [if_pos h3,if_pos h3,if_pos (by omega)]
    rfl
  · rw [if_neg h3,if_neg h3,if_neg (by omega)]
/-- whether a page is missing at a mark in its interval -/
def misP (k:Int) (xs ps:List Int) (m i:Nat):Int:=if i<m∧m<useP xs i (xs.getD i 0)∧xs.getD i 0 ∉ nwP k xs ps (m+1) then 1 else 0
theorem gn_le (hk:0≤k) (h:plRun k xs ps xs.length=some s) {m:Nat} (hm:m<xs.length):gn0 k xs m≤sumN (misP k xs ps m) xs.length:=by
  obtain ⟨t,ht⟩:=run_all h (show m+1≤xs.length from hm)
  have hlen:=(plRun_len hk (m+1) t ht).1
  have hnow:nwP k xs ps (m+1)=t.now:=by unfold nwP;rw [ht]
  have h1:=rs_last xs (fun p => !(nwP k xs ps (m+1)).contains p) (m+1) hm
  have e1:sumN (misP k xs ps m) xs.length=sumN (misP k xs ps m) (m+1):=by
    obtain ⟨d,hd⟩:=Nat.exists_eq_add_of_le (show m+1≤xs.length from hm)
    rw [hd]
    exact sumM_ext (fun i hi=>if_neg (by omega)) d
  have e2:sumN (misP k xs ps m) (m+1)=sumN (fun i=>if m+1≤useP xs i (xs.getD i 0)∧(!(nwP k xs ps (m+1)).contains (xs.getD i 0))=true then (1:Int) else 0) (m+1):=sumN_congr fun i hi=>by
    unfold misP
    by_cases him:i=m
    · subst him
      have hmem:=(step_has (nw_step h hm)).1
      rw [if_neg (by omega),if_neg]
      rintro ⟨_,h3⟩
      rw [List.contains_iff_mem.2 hmem] at h3
      cases h3
    · by_cases h3:i<m∧m<useP xs i (xs.getD i 0)∧xs.getD i 0 ∉ nwP k xs ps (m+1)
      · rw [if_pos h3,if_pos ⟨by omega,by
          rw [Bool.not_eq_true',Bool.eq_false_iff]
          exact fun h4=>h3.2.2 (List.contains_iff_mem.1 h4)⟩]
      · rw [if_neg h3,if_neg]
        rintro ⟨h4,h5⟩
        refine h3 ⟨by omega,by omega,fun h6 => ?_⟩
        rw [List.contains_iff_mem.2 h6] at h5
        cases h5
  rw [e1,e2,← h1]
  unfold gn0
  have hnd:=lt_nodup (rs_lt (xs.take (m+1)))
  generalize rs (xs.take (m+1))=l at hnd
  have hsp:l.length=(l.filter fun p => !(nwP k xs ps (m+1)).contains p).length+(l.filter fun p=>(nwP k xs ps (m+1)).contains p).length:=by
    have h5:=List.length_eq_countP_add_countP (p:=fun p=>(nwP k xs ps (m+1)).contains p) (l:=l)
    rw [List.countP_eq_length_filter,List.countP_eq_length_filter] at h5
    have h6:(l.filter fun a=>decide ¬ (nwP k xs ps (m+1)).contains a=true)=l.filter fun p => !(nwP k xs ps (m+1)).contains p:=by
      refine List.filter_congr fun x _ => ?_
      cases (nwP k xs ps (m+1)).contains x<;>rfl
    rw [h6] at h5
    omega
  have h7:(l.filter fun p=>(nwP k xs ps (m+1)).contains p).length≤(nwP k xs ps (m+1)).length:=nodupM_sub (hnd.filter _) fun x hx=>List.contains_iff_mem.1 (List.mem_filter.1 hx).2
  rw [hnow] at h7 hsp
  rw [hnow]
  omega
/-- in one interval -/
theorem mis_le {ms:List Int} (hms:MkOK xs ms) (h:plRun k xs ps xs.length=some s) {i:Nat} (hi:i<xs.length):sumN (fun t=>misP k xs ps (ms.getD t 0).toNat i) ms.length≤cutI xs i (cntI xs ms i)+(if 0≤nxI xs i then flP k xs ps (nxI xs i).toNat else 0):=by
  have key:∀ t,t≤ms.length→0≤sumN (fun t=>misP k xs ps (ms.getD t 0).toNat i) t∧sumN (fun t=>misP k xs ps (ms.getD t 0).toNat i) t≤cntI xs (ms.take t) i:=by
    intro t
    induction t with
    | zero=>intro _;simp [sumN,cntI]
    | succ t ih =>
      intro ht
      have ih:=ih (by omega)
      obtain ⟨m,hm1,hm2⟩:=mk_at hms (show t<ms.length by omega)
      have e:ms.take (t+1)=ms.take t++[ms.getD t 0]:=by rw [List.take_succ_eq_append_getElem (show t<ms.length by omega),getD_inL (show t<ms.length by omega)]
      rw [e,cntI_snoc]
      show 0≤sumN _ t+misP k xs ps (ms.getD t 0).toNat i∧sumN _ t+misP k xs ps (ms.getD t 0).toNat i≤_
      rw [hm1,Int.toNat_natCast]
      have h2:misP k xs ps m i≤(if (i:Int)<(m:Int)∧(nxI xs i<0∨(m:Int)<nxI xs i) then 1 else 0)∧0≤misP k xs ps m i:=by
        unfold misP
        by_cases h3:i<m∧m<useP xs i (xs.getD i 0)∧xs.getD i 0 ∉ nwP k xs ps (m+1)
        · rw [if_pos h3,if_pos]
          · omega
          · refine ⟨by omega,?_⟩
            unfold nxI
            split<;>omega
        · rw [if_neg h3]
          split<;>omega
      omega
  have hk:=key ms.length (Nat.le_refl _)
  rw [List.take_length] at hk
  unfold cutI
  by_cases hn:0≤nxI xs i
  · rw [if_pos hn,if_pos hn]
    have hfb:=fl_bd k xs ps (nxI xs i).toNat
    by_cases hf:flP k xs ps (nxI xs i).toNat=0
    · have hz:sumN (fun t=>misP k xs ps (ms.getD t 0).toNat i) ms.length≤sumN (fun _=>0) ms.length:=sumM_le fun t ht=>by
        obtain ⟨m,hm1,hm2⟩:=mk_at hms ht
        rw [hm1,Int.toNat_natCast]
        unfold misP
        by_cases h3:i<m∧m<useP xs i (xs.getD i 0)∧xs.getD i 0 ∉ nwP k xs ps (m+1)
        · exfalso
          obtain ⟨h4,h5,h6⟩:=h3
          have hu:useP xs i (xs.getD i 0)<xs.length:=by
            unfold nxI at hn
            split at hn
            · assumption
            · omega
          have hnx:(nxI xs i).toNat=useP xs i (xs.getD i 0):=by unfold nxI;rw [if_pos hu];rfl
          obtain ⟨d,hd⟩:=Nat.exists_eq_add_of_le (show m+1≤useP xs i (xs.getD i 0) by omega)
          have h7:=nw_keep h h6 d (by omega) fun j hj1 hj2=>use_ne (a:=i) (by omega) (by omega) (by omega)
          rw [← hd] at h7
          rw [hnx] at hf
          unfold flP at hf
          rw [use_at hu,if_neg fun h8=>h7 (List.contains_iff_mem.1 h8)] at hf
          cases hf
        · rw [if_neg h3]
          exact Int.le_refl _
      have h0:∀ n,sumN (fun _=>0) n=0:=fun n=>by
        induction n with
        | zero=>rfl
        | succ n ih=>show sumN (fun _=>0) n+0=0;omega
      rw [h0] at hz
      omega
    · omega
  · rw [if_neg hn,if_neg hn]
    omega
/-- no possible plan has fewer faults than a bound of marks -/
theorem marks_bound {ms:List Int} (hk:0≤k) (hms:MkOK xs ms) (h:plRun k xs ps xs.length=some s):bdI k xs ms ms.length≤(s.faults:Int):=by
  rw [bd_eq hms ms.length (Nat.le_refl _),fl_split h,List.take_length]
  unfold bdS
  have h1:sumN (fun j=>gn0 k xs (ms.getD j 0).toNat) ms.length≤sumN (fun j=>sumN (misP k xs ps (ms.getD j 0).toNat) xs.length) ms.length:=sumM_le fun j hj=>by
    obtain ⟨m,hm1,hm2⟩:=mk_at hms hj
    rw [hm1,Int.toNat_natCast]
    exact gn_le hk h hm2
  rw [sumM_swap] at h1
  have h2:sumN (fun i=>sumN (fun t=>misP k xs ps (ms.getD t 0).toNat i) ms.length) xs.length≤sumN (fun i=>cutI xs i (cntI xs ms i)+(if 0≤nxI xs i then flP k xs ps (nxI xs i).toNat else 0)) xs.length:=sumM_le fun i hi=>mis_le hms h hi
  rw [sumN_add] at h2
  omega
end
end Go.Proofs.YtjblpcgkffhgfaaGreat
/- Paging: what plans can cost, and that leaving out the page of the farthest next request is best. The plain laws. Conditions: those that each names. -/
set_option linter.all false
set_option linter.unusedSimpArgs false
set_option linter.unusedVariables false
namespace Go.Proofs.YtjblpcgkffhgfaaGreat

/-- with at most k pages in the cache, requests can be served from a cache on with so many faults -/
inductive Pl (k:Nat):List Int→List Int→Nat→Prop
  | nil (c:List Int):Pl k [] c 0
  | hit {x:Int} {r c:List Int} {n:Nat} (h:x∈c) (p:Pl k r c n):Pl k (x::r) c n
  | out {x e:Int} {r c:List Int} {n:Nat} (h:x ∉ c) (he:e∈c) (p:Pl k r (x::c.erase e) n):Pl k (x::r) c (n+1)
  | in_ {x:Int} {r c:List Int} {n:Nat} (h:x ∉ c) (hk:c.length<k) (p:Pl k r (x::c) n):Pl k (x::r) c (n+1)
theorem Pl.perm {k:Nat}:∀ {r c c':List Int} {n:Nat},Pl k r c n→c.Perm c'→Pl k r c' n
  | _,_,_,_,.nil c,h => .nil _
  | _,_,_,_,.hit h p,q => .hit (q.mem_iff.1 h) (p.perm q)
  | _,_,_,_,.out h he p,q => .out (fun hx=>h (q.mem_iff.2 hx)) (q.mem_iff.1 he) (p.perm ((q.erase _).cons _))
  | _,_,_,_,.in_ h hk p,q => .in_ (fun hx=>h (q.mem_iff.2 hx)) (by rw [← q.length_eq];exact hk) (p.perm (q.cons _))
section
variable {k:Nat}
theorem perm3 (a b:Int) (l:List Int):(a::b::l).Perm (b::a::l):=List.Perm.swap ..
theorem nodup_put {x e:Int} {u:List Int} (h:u.Nodup) (hx:x ∉ u):(x::u.erase e).Nodup:=List.nodup_cons.2 ⟨fun hm=>hx (List.mem_of_mem_erase hm),h.erase e⟩
/-- one page more is no harm -/
theorem pl_more:∀ {r u:List Int} {n:Nat} {c:Int},Pl k r u n→u.Nodup→c ∉ u→u.length+1≤k→∃ n',n'≤n∧Pl k r (c::u) n'
  | _,_,_,_,.nil _,_,_,_=>⟨0,Nat.le_refl _,.nil _⟩
  | _,_,_,_,.hit h p,hu,hc,hk=>by
    obtain ⟨n',h1,h2⟩:=pl_more p hu hc hk
    exact ⟨n',h1,.hit (List.mem_cons_of_mem _ h) h2⟩
  | _,u,_,c,.out (x:=x) (e:=e) h he p,hu,hc,hk=>by
    have hec:e≠c:=fun e1=>hc (e1 ▸ he)
    have hl:(u.erase e).length=u.length-1:=List.length_erase_of_mem he
    have hul:0<u.length:=List.length_pos_of_mem he
    by_cases hx:x=c
    · subst hx
      obtain ⟨n',h1,h2⟩:=pl_more (c:=e) p (nodup_put hu h) (by
        simp only [List.mem_cons,not_or]
        exact ⟨hec,fun hm=>(hu.mem_erase_iff.1 hm).1 rfl⟩) (by rw [List.length_cons,hl];omega)
      exact ⟨n',by omega,.hit (by simp) (h2.perm ((perm3 _ _ _).trans ((List.perm_cons_erase he).symm.cons _)))⟩
    · obtain ⟨n',h1,h2⟩:=pl_more (c:=c) p (nodup_put hu h) (by
        simp only [List.mem_cons,not_or]
        exact ⟨fun e1=>hx e1.symm,fun hm=>hc (List.mem_of_mem_erase hm)⟩) (by rw [List.length_cons,hl];omega)
      refine ⟨n'+1,by omega,.out (e:=e) ?_ (List.mem_cons_of_mem _ he) ?_⟩
      · simp only [List.mem_cons,not_or]
        exact ⟨hx,h⟩
      · rw [List.erase_cons_tail (by simpa using fun e1=>hec e1.symm)]
        exact h2.perm (perm3 _ _ _)
  | _,u,_,c,.in_ (x:=x) h hk' p,hu,hc,hk=>by
    by_cases hx:x=c
    · subst hx
      exact ⟨_,Nat.le_succ _,.hit (by simp) p⟩
    · have hxc:x ∉ c::u:=by
        simp only [List.mem_cons,not_or]
        exact ⟨hx,h⟩
      by_cases hlt:u.length+1<k
      · obtain ⟨n',h1,h2⟩:=pl_more (c:=c) p (List.nodup_cons.2 ⟨h,hu⟩) (by
          simp only [List.mem_cons,not_or]
          exact ⟨fun e1=>hx e1.symm,hc⟩) (by rw [List.length_cons];omega)
        exact ⟨n'+1,by omega,.in_ hxc (by rw [List.length_cons];exact hlt) (h2.perm (perm3 _ _ _))⟩
      · refine ⟨_,Nat.le_refl _,.out (e:=c) hxc (by simp) ?_⟩
        rw [List.erase_cons_head]
        exact p
/-- one page less costs at most one fault -/
theorem pl_less:∀ {r u c:List Int} {n:Nat} {b:Int},Pl k r c n→c.Perm (b::u)→(b::u).Nodup→u.length+1≤k→∃ n',n'≤n+1∧Pl k r u n'
  | _,_,_,_,_,.nil _,_,_,_=>⟨0,by omega,.nil _⟩
  | _,u,_,_,b,.hit (x:=x) h p,q,hu,hk=>by
    have hu2:=List.nodup_cons.1 hu
    by_cases hx:x=b
    · subst hx
      exact ⟨_,Nat.le_refl _,.in_ hu2.1 (by omega) (p.perm q)⟩
    · have hxu:x∈u:=(List.mem_cons.1 (q.mem_iff.1 h)).resolve_left hx
      obtain ⟨n',h1,h2⟩:=pl_less p q hu hk
      exact ⟨n',h1,.hit hxu h2⟩
  | _,u,_,_,b,.out (x:=x) (e:=e) h he p,q,hu,hk=>by
    have hu2:=List.nodup_cons.1 hu
    have hxb:x ∉ b::u:=fun hm=>h (q.mem_iff.2 hm)
    simp only [List.mem_cons,not_or] at hxb
    have q2:=(q.erase e).cons x
    by_cases hb:e=b
    · subst hb
      rw [List.erase_cons_head] at q2
      exact ⟨_,Nat.le_succ _,.in_ hxb.2 (by omega) (p.perm q2)⟩
    · have heu:e∈u:=(List.mem_cons.1 (q.mem_iff.1 he)).resolve_left hb
      rw [List.erase_cons_tail (by simpa using fun e1=>hb e1.symm)] at q2
      have hl:(u.erase e).length=u.length-1:=List.length_erase_of_mem heu
      have hul:0<u.length:=List.length_pos_of_mem heu
      obtain ⟨n',h1,h2⟩:=pl_less (u:=x::u.erase e) (b:=b) p (q2.trans (perm3 _ _ _)) (List.nodup_cons.2 ⟨by
        simp only [List.mem_cons,not_or]
        exact ⟨fun e1=>hxb.1 e1.symm,fun hm=>hu2.1 (List.mem_of_mem_erase hm)⟩,nodup_put hu2.2 hxb.2⟩) (by rw [List.length_cons,hl];omega)
      exact ⟨n'+1,by omega,.out hxb.2 heu h2⟩
  | _,u,_,_,b,.in_ (x:=x) h hk' p,q,hu,hk=>by
    have hu2:=List.nodup_cons.1 hu
    have hxb:x ∉ b::u:=fun hm=>h (q.mem_iff.2 hm)
    simp only [List.mem_cons,not_or] at hxb
    have hql:=q.length_eq
    rw [List.length_cons] at hql
    obtain ⟨n',h1,h2⟩:=pl_less (u:=x::u) (b:=b) p ((q.cons x).trans (perm3 _ _ _)) (List.nodup_cons.2 ⟨by
      simp only [List.mem_cons,not_or]
      exact ⟨fun e1=>hxb.1 e1.symm,hu2.1⟩,List.nodup_cons.2 ⟨hxb.2,hu2.2⟩⟩) (by rw [List.length_cons];omega)
    exact ⟨n'+1,by omega,.in_ hxb.2 (by omega) h2⟩
theorem idx_tail {x a:Int} {r:List Int} (h:x≠a):(x::r).idxOf a=r.idxOf a+1:=by
  rw [List.idxOf_cons]
  rw [show (x == a)=false by simpa using h]
  rfl
/-- a page that is requested sooner is as good -/
theorem pl_swap:∀ {r u c:List Int} {n:Nat} {a b:Int},Pl k r c n→c.Perm (b::u)→(b::u).Nodup→a ∉ u→a≠b→u.length+1≤k→r.idxOf a≤r.idxOf b→∃ n',n'≤n∧Pl k r (a::u) n'
  | _,_,_,_,_,_,.nil _,_,_,_,_,_,_=>⟨0,Nat.le_refl _,.nil _⟩
  | _,u,_,_,a,b,.hit (x:=x) (r:=r) h p,q,hu,ha,hab,hk,hn=>by
    have hu2:=List.nodup_cons.1 hu
    by_cases hxb:x=b
    · exfalso
      subst hxb
      rw [List.idxOf_cons_self,idx_tail (fun e=>hab e.symm)] at hn
      omega
    · have hxu:x∈u:=(List.mem_cons.1 (q.mem_iff.1 h)).resolve_left hxb
      have hxa:x≠a:=fun e=>ha (e ▸ hxu)
      rw [idx_tail hxa,idx_tail hxb] at hn
      obtain ⟨n',h1,h2⟩:=pl_swap p q hu ha hab hk (by omega)
      exact ⟨n',h1,.hit (List.mem_cons_of_mem _ hxu) h2⟩
  | _,u,_,_,a,b,.out (x:=x) (e:=e) (n:=m) h he p,q,hu,ha,hab,hk,hn=>by
    have hu2:=List.nodup_cons.1 hu
    have hxb:x ∉ b::u:=fun hm=>h (q.mem_iff.2 hm)
    simp only [List.mem_cons,not_or] at hxb
    have q2:=(q.erase e).cons x
    by_cases hxa:x=a
    · subst hxa
      by_cases hb:e=b
      · subst hb
        rw [List.erase_cons_head] at q2
        exact ⟨m,Nat.le_succ _,.hit (by simp) (p.perm q2)⟩
      · have heu:e∈u:=(List.mem_cons.1 (q.mem_iff.1 he)).resolve_left hb
        rw [List.erase_cons_tail (by simpa using fun e1=>hb e1.symm)] at q2
        have hl:(u.erase e).length=u.length-1:=List.length_erase_of_mem heu
        have hul:0<u.length:=List.length_pos_of_mem heu
        have hnd:(x::u.erase e).Nodup:=nodup_put hu2.2 ha
        obtain ⟨n1,h1,h2⟩:=pl_less (u:=x::u.erase e) (b:=b) p (q2.trans (perm3 _ _ _)) (List.nodup_cons.2 ⟨by
          simp only [List.mem_cons,not_or]
          exact ⟨fun e1=>hab e1.symm,fun hm=>hu2.1 (List.mem_of_mem_erase hm)⟩,hnd⟩) (by rw [List.length_cons,hl];omega)
        obtain ⟨n2,h3,h4⟩:=pl_more (c:=e) h2 hnd (by
          simp only [List.mem_cons,not_or]
          exact ⟨fun e1=>ha (e1 ▸ heu),fun hm=>(hu2.2.mem_erase_iff.1 hm).1 rfl⟩) (by rw [List.length_cons,hl];omega)
        exact ⟨n2,by omega,.hit (by simp) (h4.perm ((perm3 _ _ _).trans ((List.perm_cons_erase heu).symm.cons _)))⟩
    · rw [idx_tail hxa,idx_tail hxb.1] at hn
      have hxs:x ∉ a::u:=by
        simp only [List.mem_cons,not_or]
        exact ⟨hxa,hxb.2⟩
      by_cases hb:e=b
      · subst hb
        rw [List.erase_cons_head] at q2
        refine ⟨m+1,Nat.le_refl _,.out (e:=a) hxs (by simp) ?_⟩
        rw [List.erase_cons_head]
        exact p.perm q2
      · have heu:e∈u:=(List.mem_cons.1 (q.mem_iff.1 he)).resolve_left hb
        have hea:e≠a:=fun e1=>ha (e1 ▸ heu)
        rw [List.erase_cons_tail (by simpa using fun e1=>hb e1.symm)] at q2
        have hl:(u.erase e).length=u.length-1:=List.length_erase_of_mem heu
        have hul:0<u.length:=List.length_pos_of_mem heu
        obtain ⟨n',h1,h2⟩:=pl_swap (u:=x::u.erase e) (a:=a) (b:=b) p (q2.trans (perm3 _ _ _)) (List.nodup_cons.2 ⟨by
          simp only [List.mem_cons,not_or]
          exact ⟨fun e1=>hxb.1 e1.symm,fun hm=>hu2.1 (List.mem_of_mem_erase hm)⟩,nodup_put hu2.2 hxb.2⟩) (by
          simp only [List.mem_cons,not_or]
          exact ⟨fun e1=>hxa e1.symm,fun hm=>ha (List.mem_of_mem_erase hm)⟩) hab (by rw [List.length_cons,hl];omega) (by omega)
        refine ⟨n'+1,by omega,.out (e:=e) hxs (List.mem_cons_of_mem _ heu) ?_⟩
        rw [List.erase_cons_tail (by simpa using fun e1=>hea e1.symm)]
        exact h2.perm (perm3 _ _ _)
  | _,u,_,_,a,b,.in_ (x:=x) (n:=m) h hk' p,q,hu,ha,hab,hk,hn=>by
    have hu2:=List.nodup_cons.1 hu
    have hxb:x ∉ b::u:=fun hm=>h (q.mem_iff.2 hm)
    simp only [List.mem_cons,not_or] at hxb
    have hql:=q.length_eq
    rw [List.length_cons] at hql
    have q2:=(q.cons x).trans (perm3 x b u)
    have hb2:(b::x::u).Nodup:=List.nodup_cons.2 ⟨by
      simp only [List.mem_cons,not_or]
      exact ⟨fun e1=>hxb.1 e1.symm,hu2.1⟩,List.nodup_cons.2 ⟨hxb.2,hu2.2⟩⟩
    by_cases hxa:x=a
    · subst hxa
      obtain ⟨n',h1,h2⟩:=pl_less (u:=x::u) (b:=b) p q2 hb2 (by rw [List.length_cons];omega)
      exact ⟨n',by omega,.hit (by simp) h2⟩
    · rw [idx_tail hxa,idx_tail hxb.1] at hn
      obtain ⟨n',h1,h2⟩:=pl_swap (u:=x::u) (a:=a) (b:=b) p q2 hb2 (by
        simp only [List.mem_cons,not_or]
        exact ⟨fun e1=>hxa e1.symm,ha⟩) hab (by rw [List.length_cons];omega) (by omega)
      exact ⟨n'+1,by omega,.in_ (by
        simp only [List.mem_cons,not_or]
        exact ⟨hxa,hxb.2⟩) (by rw [List.length_cons];omega) (h2.perm (perm3 _ _ _))⟩
end
/-! ### leaving out the page of the farthest next request -/
/-- what a run costs that leaves out a page only where the cache is full, and then one that is told -/
def grC (k:Nat) (f:List Int→List Int→Int):List Int→List Int→Nat
  | [],_=>0
  | x::r,c=>if x∈c then grC k f r c else if c.length<k then grC k f r (x::c)+1 else grC k f r (x::c.erase (f r c))+1
/-- a page of a cache that is requested last -/
def FarOK (f:List Int→List Int→Int):Prop:=∀ r c,c≠[]→f r c∈c∧∀ e∈c,r.idxOf e≤r.idxOf (f r c)
theorem greedy_best {k:Nat} (hk:1≤k) {f:List Int→List Int→Int} (hf:FarOK f):∀ (r c:List Int) (n:Nat),c.Nodup→c.length≤k→Pl k r c n→grC k f r c≤n
  | [],c,n,_,_,_=>by simp [grC]
  | x::r,c,n,hc,hl,p=>by
    unfold grC
    by_cases hx:x∈c
    · rw [if_pos hx]
      cases p with
      | hit _ p=>exact greedy_best hk hf r c _ hc hl p
      | out h _ _=>exact (h hx).elim
      | in_ h _ _=>exact (h hx).elim
    · rw [if_neg hx]
      have hxc:(x::c).Nodup:=List.nodup_cons.2 ⟨hx,hc⟩
      by_cases hlt:c.length<k
      · rw [if_pos hlt]
        cases p with
        | hit h _=>exact (hx h).elim
        | in_ _ _ p=>exact Nat.succ_le_succ (greedy_best hk hf r _ _ hxc (by rw [List.length_cons];omega) p)
        | out hx2 he p =>
          rename_i e m
          have hel:(c.erase e).length=c.length-1:=List.length_erase_of_mem he
          have hcl:0<c.length:=List.length_pos_of_mem he
          obtain ⟨n',h1,h2⟩:=pl_more (c:=e) p (nodup_put hc hx) (by
            simp only [List.mem_cons,not_or]
            exact ⟨fun e1=>hx (e1 ▸ he),fun hm=>(hc.mem_erase_iff.1 hm).1 rfl⟩) (by rw [List.length_cons,hel];omega)
          have h3:=greedy_best hk hf r (x::c) n' hxc (by rw [List.length_cons];omega) (h2.perm ((perm3 _ _ _).trans ((List.perm_cons_erase he).symm.cons _)))
          omega
      · rw [if_neg hlt]
        have hcn:c≠[]:=fun e=>by rw [e] at hlt hl;simp at hlt;omega
        obtain ⟨hfc,hfar⟩:=hf r c hcn
        generalize f r c=g at hfc hfar
        have hgl:(c.erase g).length=c.length-1:=List.length_erase_of_mem hfc
        have hcl:0<c.length:=List.length_pos_of_mem hfc
        have key:∀ m,Pl k r (x::c.erase g) m→grC k f r (x::c.erase g)≤m:=fun m p=>greedy_best hk hf r _ m (nodup_put hc hx) (by rw [List.length_cons,hgl];omega) p
        cases p with
        | hit h _=>exact (hx h).elim
        | in_ _ h _=>exact (hlt h).elim
        | out hx2 he p =>
          rename_i e m
          by_cases heg:e=g
          · subst heg
            exact Nat.succ_le_succ (key _ p)
          · have hge:g∈c.erase e:=hc.mem_erase_iff.2 ⟨fun e1=>heg e1.symm,hfc⟩
            have heg2:e∈c.erase g:=hc.mem_erase_iff.2 ⟨heg,he⟩
            have hnd:((c.erase e).erase g).Nodup:=(hc.erase e).erase g
            have hxn:x ∉ (c.erase e).erase g:=fun hm=>hx (List.mem_of_mem_erase (List.mem_of_mem_erase hm))
            have hlen:((c.erase e).erase g).length=c.length-2:=by rw [List.length_erase_of_mem hge,List.length_erase_of_mem he];omega
            have q1:(x::c.erase e).Perm (g::x::(c.erase e).erase g):=((List.perm_cons_erase hge).cons _).trans (perm3 _ _ _)
            have hl2:2≤c.length:=by
              have:=List.length_pos_of_mem hge
              rw [List.length_erase_of_mem he] at this
              omega
            obtain ⟨n',h1,h2⟩:=pl_swap (u:=x::(c.erase e).erase g) (a:=e) (b:=g) p q1 (List.nodup_cons.2 ⟨by
              simp only [List.mem_cons,not_or]
              exact ⟨fun e1=>hx (e1 ▸ hfc),fun hm=>((hc.erase e).mem_erase_iff.1 hm).1 rfl⟩,List.nodup_cons.2 ⟨hxn,hnd⟩⟩) (by
              simp only [List.mem_cons,not_or]
              exact ⟨fun e1=>hx (e1 ▸ he),fun hm=>(hc.mem_erase_iff.1 (List.mem_of_mem_erase hm)).1 rfl⟩) heg (by rw [List.length_cons,hlen];omega) (hfar e he)
            have q2:(e::x::(c.erase e).erase g).Perm (x::c.erase g):=by
              refine (perm3 _ _ _).trans (List.Perm.cons _ ?_)
              rw [List.erase_comm]
              exact (List.perm_cons_erase heg2).symm
            have h3:=key n' (h2.perm q2)
            omega
theorem greedy_pl {k:Nat} (hk:1≤k) {f:List Int→List Int→Int} (hf:FarOK f):∀ (r c:List Int),c.length≤k→Pl k r c (grC k f r c)
  | [],c,_ => .nil _
  | x::r,c,hl=>by
    unfold grC
    by_cases hx:x∈c
    · rw [if_pos hx]
      exact .hit hx (greedy_pl hk hf r c hl)
    · rw [if_neg hx]
      by_cases hlt:c.length<k
      · rw [if_pos hlt]
        exact .in_ hx hlt (greedy_pl hk hf r _ (by rw [List.length_cons];omega))
      · rw [if_neg hlt]
        have hcn:c≠[]:=fun e=>by rw [e] at hlt hl;simp at hlt;omega
        obtain ⟨hfc,_⟩:=hf r c hcn
        have hgl:(c.erase (f r c)).length=c.length-1:=List.length_erase_of_mem hfc
        have hcl:0<c.length:=List.length_pos_of_mem hfc
        exact .out hx hfc (greedy_pl hk hf r _ (by rw [List.length_cons,hgl];omega))
end Go.Proofs.YtjblpcgkffhgfaaGreat
/- Paging: the fewest faults, by the reference's table and by the plan of the farthest next request. The plain laws. Conditions: those that each names. -/
set_option linter.all false
set_option linter.unusedSimpArgs false
set_option linter.unusedVariables false
namespace Go.Proofs.YtjblpcgkffhgfaaGreat

/-! ### sets of pages as bits and as lists -/
def memS (n s:Nat):List Int:=((List.range n).filter fun i=>s.testBit i).map fun (i:Nat)=>(i:Int)
def sizS (n s:Nat):Nat:=(memS n s).length
theorem memS_nodup (n s:Nat):(memS n s).Nodup:=by
  unfold memS
  exact List.pairwise_map.2 ((List.nodup_range.filter _).imp fun h e=>h (by omega))
theorem memS_mem {n s:Nat} {y:Int}:y∈memS n s↔∃ p:Nat,p<n∧s.testBit p=true∧(p:Int)=y:=by
  simp only [memS,List.mem_map,List.mem_filter,List.mem_range]
  exact ⟨fun ⟨p,⟨h1,h2⟩,h3⟩=>⟨p,h1,h2,h3⟩,fun ⟨p,h1,h2,h3⟩=>⟨p,⟨h1,h2⟩,h3⟩⟩
theorem memS_has {n s p:Nat} (h:p<n):(p:Int)∈memS n s↔s.testBit p=true:=by
  rw [memS_mem]
  exact ⟨fun ⟨q,_,h2,h3⟩=>by rwa [show p=q by omega],fun h1=>⟨p,h,h1,rfl⟩⟩
theorem memS_succ (n s:Nat):memS (n+1) s=memS n s++if s.testBit n=true then [(n:Int)] else []:=by
  unfold memS
  rw [List.range_succ,List.filter_append,List.map_append]
  congr 1
  by_cases h:s.testBit n=true
  · rw [if_pos h,List.filter_cons_of_pos h];rfl
  · rw [if_neg h,List.filter_cons_of_neg h];rfl
/-- the number of digits 1 among the last n -/
def pcN:Nat→Nat→Nat
  | 0,_=>0
  | n+1,s=>s % 2+pcN n (s / 2)
theorem pcN_zero:∀ n,pcN n 0=0
  | 0=>rfl
  | n+1=>by
    show 0 % 2+pcN n (0 / 2)=0
    rw [Nat.zero_div,pcN_zero n]
theorem sizS_pc:∀ n s,sizS n s=pcN n s
  | 0,_=>rfl
  | n+1,s=>by
    have e:memS (n+1) s=(if s.testBit 0=true then [0] else [])++(memS n (s / 2)).map (·+1):=by
      unfold memS
      rw [List.range_succ_eq_map,List.filter_cons]
      have h1:(List.filter (fun i=>s.testBit i) (List.map Nat.succ (List.range n))).map (fun (i:Nat)=>(i:Int))=List.map (·+1) (List.map (fun (i:Nat)=>(i:Int)) (List.filter (fun i=>(s / 2).testBit i) (List.range n))):=by
        rw [List.filter_map,List.map_map,List.map_map]
        have h2:((fun i=>s.testBit i) ∘ Nat.succ)=fun i=>(s / 2).testBit i:=funext fun i=>by
          show s.testBit (i+1)=_
          rw [Nat.testBit_succ]
        rw [h2]
        exact List.map_congr_left fun i _=>by show ((i+1:Nat):Int)=_;rfl
      by_cases h:s.testBit 0=true
      · rw [if_pos h,if_pos h,List.map_cons,h1];rfl
      · rw [if_neg h,if_neg h,h1];rfl
    have h2:=sizS_pc n (s / 2)
    unfold sizS at h2 ⊢
    rw [e,List.length_append,List.length_map,h2]
    show _=s % 2+pcN n (s / 2)
    congr 1
    rw [Nat.testBit_zero]
    by_cases h:s % 2=1
    · simp [h]
    · simp [h];omega
theorem sizS_le (n s:Nat):sizS n s≤n:=by
  unfold sizS memS
  rw [List.length_map]
  exact Nat.le_trans (List.length_filter_le _ _) (by simp)
/-- the set behind a request -/
def aftS (s p:Nat) (o:Int):Nat:=(if 0≤o then s-2 ^ o.toNat else s) ||| 2 ^ p
theorem aftS_lt {s p n:Nat} {o:Int} (h:s<2 ^ n) (hp:p<n):aftS s p o<2 ^ n:=by
  unfold aftS
  refine Nat.or_lt_two_pow ?_ (Nat.pow_lt_pow_right (by decide) hp)
  split
  · exact Nat.lt_of_le_of_lt (Nat.sub_le _ _) h
  · exact h
theorem aftS_no {s p:Nat}:aftS s p (-1)=s ||| 2 ^ p:=by
  unfold aftS
  rw [if_neg (by decide)]
theorem aftS_hit {s p:Nat} (h:s.testBit p=true):aftS s p (-1)=s:=by
  rw [aftS_no]
  refine Nat.eq_of_testBit_eq fun x => ?_
  rw [or_bit]
  by_cases e:p=x
  · subst e;simp [h]
  · simp [e]
theorem aft_in {n s p:Nat} (hp:p<n) (h:s.testBit p=false):(memS n (aftS s p (-1))).Perm ((p:Int)::memS n s):=by
  rw [aftS_no]
  refine (List.perm_ext_iff_of_nodup (memS_nodup _ _) (List.nodup_cons.2 ⟨fun hm=>(by rw [(memS_has hp).1 hm] at h;cases h),memS_nodup _ _⟩)).2 fun y => ?_
  rw [List.mem_cons,memS_mem,memS_mem]
  constructor
  · rintro ⟨q,h1,h2,h3⟩
    rw [or_bit] at h2
    by_cases e:p=q
    · left;omega
    · right;exact ⟨q,h1,by simpa [e] using h2,h3⟩
  · rintro (h1 | ⟨q,h1,h2,h3⟩)
    · exact ⟨p,hp,by rw [or_bit];simp,h1.symm⟩
    · exact ⟨q,h1,by rw [or_bit,h2];rfl,h3⟩
theorem aft_out {n s p e:Nat} (hp:p<n) (h:s.testBit p=false) (he:s.testBit e=true):(memS n (aftS s p e)).Perm ((p:Int)::(memS n s).erase (e:Int)):=by
  have hpe:p≠e:=fun e1=>by rw [e1,he] at h;cases h
  have h0:aftS s p e=(s-2 ^ e) ||| 2 ^ p:=by
    unfold aftS
    rw [if_pos (by omega),Int.toNat_natCast]
  rw [h0]
  refine (List.perm_ext_iff_of_nodup (memS_nodup _ _) (List.nodup_cons.2 ⟨fun hm=>(by rw [(memS_has hp).1 (List.mem_of_mem_erase hm)] at h;cases h),(memS_nodup _ _).erase _⟩)).2 fun y => ?_
  rw [List.mem_cons,(memS_nodup n s).mem_erase_iff,memS_mem,memS_mem]
  constructor
  · rintro ⟨q,h1,h2,h3⟩
    rw [or_bit,bit_sub he] at h2
    by_cases e1:p=q
    · left;omega
    · right
      simp only [e1,decide_false,Bool.or_false,Bool.and_eq_true,decide_eq_true_eq] at h2
      exact ⟨by omega,q,h1,h2.1,h3⟩
  · rintro (h1 | ⟨h1,q,h2,h3,h4⟩)
    · exact ⟨p,hp,by rw [or_bit];simp,h1.symm⟩
    · refine ⟨q,h2,?_,h4⟩
      rw [or_bit,bit_sub he,h3]
      have:q≠e:=by omega
      simp [this]
/-! ### the reference's table -/
def chS (k n s p:Nat):List Int:=if s.testBit p=true then [-1] else (if sizS n s<k then [-1] else [])++memS n s
def bestS (f:Int→Int) (l:List Int):Int:=l.foldl (fun b o=>if b<0∨f o<b then f o else b) (-1)
theorem bestS_snoc (f:Int→Int) (l:List Int) (o:Int):bestS f (l++[o])=if bestS f l<0∨f o<bestS f l then f o else bestS f l:=by
  unfold bestS
  rw [List.foldl_append]
  rfl
def tS (k n:Nat) (xs:List Int):Nat→Nat→Int
  | 0,_=>0
  | d+1,s=>if sizS n s≤k then bestS (fun o=>tS k n xs d (aftS s (xs.getD (xs.length-(d+1)) 0).toNat o)+if s.testBit (xs.getD (xs.length-(d+1)) 0).toNat=true then 0 else 1) (chS k n s (xs.getD (xs.length-(d+1)) 0).toNat) else -1
theorem rev_ind {P:List Int→Prop} (h0:P []) (h1:∀ l o,P l→P (l++[o])) (l:List Int):P l:=by
  have h:∀ l:List Int,P l.reverse:=fun l=>by
    induction l with
    | nil=>exact h0
    | cons a l ih=>rw [List.reverse_cons];exact h1 _ _ ih
  have:=h l.reverse
  rwa [List.reverse_reverse] at this
theorem best_in {f:Int→Int}:∀ l:List Int,bestS f l = -1∨∃ o∈l,bestS f l=f o:=fun l=>by
  induction l using rev_ind with
  | h0=>exact .inl rfl
  | h1 l o ih =>
    rw [bestS_snoc]
    split
    · exact .inr ⟨o,by simp,rfl⟩
    · exact ih.imp id fun ⟨o',h1,h2⟩=>⟨o',by simp [h1],h2⟩
theorem best_least {f:Int→Int}:∀ l:List Int,(∀ o∈l,0≤f o)→l≠[]→∃ o∈l,bestS f l=f o∧∀ o'∈l,f o≤f o':=fun l=>by
  induction l using rev_ind with
  | h0=>exact fun _ h=>(h rfl).elim
  | h1 l o ih =>
    intro h0 _
    rw [bestS_snoc]
    by_cases hl:l=[]
    · subst hl
      refine ⟨o,by simp,?_,fun o' ho' => ?_⟩
      · exact if_pos (Or.inl (show (-1:Int)<0 by decide))
      · have e1:o'=o:=List.mem_singleton.1 (by simpa using ho')
        rw [e1]
        exact Int.le_refl _
    · obtain ⟨o1,h1,h2,h3⟩:=ih (fun o' ho'=>h0 o' (by simp [ho'])) hl
      have h4:=h0 o1 (by simp [h1])
      rw [h2]
      by_cases h5:f o1<0∨f o<f o1
      · rw [if_pos h5]
        refine ⟨o,by simp,rfl,fun o' ho' => ?_⟩
        rcases List.mem_append.1 ho' with ho' | ho'
        · have:=h3 o' ho';omega
        · rw [List.mem_singleton.1 ho'];exact Int.le_refl _
      · rw [if_neg h5]
        refine ⟨o1,by simp [h1],rfl,fun o' ho' => ?_⟩
        rcases List.mem_append.1 ho' with ho' | ho'
        · exact h3 o' ho'
        · rw [List.mem_singleton.1 ho'];omega
theorem tS_bd (k n:Nat) (xs:List Int):∀ d s,-1≤tS k n xs d s∧tS k n xs d s≤d
  | 0,_=>⟨by show (-1:Int)≤0;decide,Int.le_refl _⟩
  | d+1,s=>by
    unfold tS
    split
    · rcases best_in (f:=fun o=>tS k n xs d (aftS s (xs.getD (xs.length-(d+1)) 0).toNat o)+if s.testBit (xs.getD (xs.length-(d+1)) 0).toNat=true then 0 else 1) (chS k n s (xs.getD (xs.length-(d+1)) 0).toNat) with h | ⟨o,_,h⟩
      · rw [h];omega
      · rw [h]
        have:=tS_bd k n xs d (aftS s (xs.getD (xs.length-(d+1)) 0).toNat o)
        split<;>omega
    · omega
/-- the table says what is least -/
theorem tS_min {k n:Nat} {xs:List Int} (hk:1≤k) (hx:∀ i,i<xs.length→∃ p:Nat,xs.getD i 0=(p:Int)∧p<n):∀ d,d≤xs.length→∀ s,sizS n s≤k→∃ m:Nat,tS k n xs d s=m∧Pl k (xs.drop (xs.length-d)) (memS n s) m∧∀ m',Pl k (xs.drop (xs.length-d)) (memS n s) m'→m≤m'
  | 0,_,s,_=>⟨0,rfl,by rw [Nat.sub_zero,List.drop_length];exact .nil _,fun _ _=>Nat.zero_le _⟩
  | d+1,hd,s,hs=>by
    obtain ⟨p,hp,hpn⟩:=hx (xs.length-(d+1)) (by omega)
    have hdr:xs.drop (xs.length-(d+1))=(p:Int)::xs.drop (xs.length-d):=by
      rw [List.drop_eq_getElem_cons (show xs.length-(d+1)<xs.length by omega),← hp,getD_inL (show xs.length-(d+1)<xs.length by omega),show xs.length-(d+1)+1=xs.length-d by omega]
    have IH:=fun s hs=>tS_min hk hx d (by omega) s hs
    unfold tS
    rw [if_pos hs,hp,Int.toNat_natCast,hdr]
    generalize xs.drop (xs.length-d)=r at IH
    unfold chS
    by_cases hb:s.testBit p=true
    · rw [if_pos hb]
      obtain ⟨m,h1,h2,h3⟩:=IH s hs
      refine ⟨m,?_,.hit ((memS_has hpn).2 hb) h2,fun m' h => ?_⟩
      · simp only [hb,if_true]
        show (if (-1:Int)<0∨tS k n xs d (aftS s p (-1))+0 < -1 then tS k n xs d (aftS s p (-1))+0 else -1)=_
        rw [if_pos (.inl (by decide)),aftS_hit hb,h1]
        omega
      · cases h with
        | hit _ h=>exact h3 _ h
        | out h _ _=>exact (h ((memS_has hpn).2 hb)).elim
        | in_ h _ _=>exact (h ((memS_has hpn).2 hb)).elim
    · have hb0:s.testBit p=false:=by simpa using hb
      have hno:(p:Int) ∉ memS n s:=fun h=>hb ((memS_has hpn).1 h)
      rw [if_neg hb]
      simp only [hb0,Bool.false_eq_true,if_false]
      have key:∀ o∈(if sizS n s<k then [-1] else [])++memS n s,∃ m:Nat,tS k n xs d (aftS s p o)+1=((m+1:Nat):Int)∧Pl k ((p:Int)::r) (memS n s) (m+1)∧(o = -1→∀ m',Pl k r ((p:Int)::memS n s) m'→m≤m')∧(o ≠ -1→∀ m',Pl k r ((p:Int)::(memS n s).erase o) m'→m≤m'):=fun o ho=>by
        rcases List.mem_append.1 ho with ho | ho
        · have hlt:sizS n s<k:=by
            rcases Nat.lt_or_ge (sizS n s) k with h | h
            · exact h
            · rw [if_neg (by omega)] at ho;cases ho
          rw [if_pos hlt] at ho
          obtain rfl:=List.mem_singleton.1 ho
          have hpm:=aft_in hpn hb0
          obtain ⟨m,h1,h2,h3⟩:=IH (aftS s p (-1)) (by
            have:=hpm.length_eq
            rw [List.length_cons] at this
            unfold sizS at hlt ⊢
            omega)
          exact ⟨m,by rw [h1];omega,.in_ hno hlt (h2.perm hpm),fun _ m' h=>h3 m' (h.perm hpm.symm),fun h=>(h rfl).elim⟩
        · obtain ⟨e,he1,he2,rfl⟩:=memS_mem.1 ho
          have hpm:=aft_out hpn hb0 he2
          obtain ⟨m,h1,h2,h3⟩:=IH (aftS s p e) (by
            have h4:=hpm.length_eq
            rw [List.length_cons,List.length_erase_of_mem ho] at h4
            have:=List.length_pos_of_mem ho
            unfold sizS at hs ⊢
            omega)
          exact ⟨m,by rw [h1];omega,.out hno ho (h2.perm hpm),fun h=>by omega,fun _ m' h=>h3 m' (h.perm hpm.symm)⟩
      obtain ⟨o,ho1,ho2,ho3⟩:=best_least (f:=fun o=>tS k n xs d (aftS s p o)+1) ((if sizS n s<k then [-1] else [])++memS n s) (fun o ho=>by
        obtain ⟨m,h1,_⟩:=key o ho
        show 0≤tS k n xs d (aftS s p o)+1
        rw [h1]
        omega) (fun h=>by
          obtain ⟨h1,h2⟩:=List.append_eq_nil_iff.1 h
          by_cases hlt:sizS n s<k
          · rw [if_pos hlt] at h1;cases h1
          · unfold sizS at hlt
            rw [h2] at hlt
            simp at hlt
            omega)
      obtain ⟨m,h1,h2,_⟩:=key o ho1
      refine ⟨m+1,by rw [ho2,h1],h2,fun m' h => ?_⟩
      cases h with
      | hit h _=>exact (hno h).elim
      | out hz he p1 =>
        rename_i e m1
        obtain ⟨m2,h4,_,_,h5⟩:=key e (List.mem_append.2 (.inr he))
        have h6:=ho3 e (List.mem_append.2 (.inr he))
        obtain ⟨e1,_,_,rfl⟩:=memS_mem.1 he
        have:=h5 (by omega) _ p1
        rw [h1,h4] at h6
        omega
      | in_ _ hlt p1 =>
        have hm:(-1:Int)∈(if sizS n s<k then [-1] else [])++memS n s:=List.mem_append.2 (.inl (by rw [if_pos (show sizS n s<k from hlt)];simp))
        obtain ⟨m2,h4,_,h5,_⟩:=key (-1) hm
        have h6:=ho3 (-1) hm
        have:=h5 rfl _ p1
        rw [h1,h4] at h6
        omega
/-! ### the page of the farthest next request -/
def farF (r:List Int):List Int→Int→Int→Int
  | [],best,_=>best
  | p::c,best,far=>if r.contains p=true then (if far<(r.idxOf p:Int) then farF r c p (r.idxOf p) else farF r c best far) else p
theorem farF_ok {r:List Int}:∀ (c:List Int) (best far:Int),(farF r c best far∈c∧farF r c best far ∉ r)∨(farF r c best far=best∧∀ e∈c,(r.idxOf e:Int)≤far)∨(farF r c best far∈c∧far<(r.idxOf (farF r c best far):Int)∧∀ e∈c,r.idxOf e≤r.idxOf (farF r c best far))
  | [],best,far => .inr (.inl ⟨rfl,fun _ h=>nomatch h⟩)
  | p::c,best,far=>by
    unfold farF
    by_cases hp:r.contains p=true
    · rw [if_pos hp]
      by_cases hf:far<(r.idxOf p:Int)
      · rw [if_pos hf]
        rcases farF_ok c p (r.idxOf p) with h | ⟨h1,h2⟩ | ⟨h1,h2,h3⟩
        · exact .inl ⟨List.mem_cons_of_mem _ h.1,h.2⟩
        · refine .inr (.inr ⟨by rw [h1];simp,by rw [h1];exact hf,fun e he => ?_⟩)
          rw [h1]
          rcases List.mem_cons.1 he with rfl | he
          · exact Nat.le_refl _
          · have:=h2 e he;omega
        · refine .inr (.inr ⟨List.mem_cons_of_mem _ h1,by omega,fun e he => ?_⟩)
          rcases List.mem_cons.1 he with rfl | he
          · omega
          · exact h3 e he
      · rw [if_neg hf]
        rcases farF_ok c best far with h | ⟨h1,h2⟩ | ⟨h1,h2,h3⟩
        · exact .inl ⟨List.mem_cons_of_mem _ h.1,h.2⟩
        · refine .inr (.inl ⟨h1,fun e he => ?_⟩)
          rcases List.mem_cons.1 he with rfl | he
          · omega
          · exact h2 e he
        · refine .inr (.inr ⟨List.mem_cons_of_mem _ h1,h2,fun e he => ?_⟩)
          rcases List.mem_cons.1 he with rfl | he
          · omega
          · exact h3 e he
    · rw [if_neg hp]
      exact .inl ⟨by simp,fun h=>hp (List.contains_iff_mem.2 h)⟩
def farC (r c:List Int):Int:=farF r (rs c) (-1) (-1)
theorem far_ok:FarOK farC:=fun r c hc=>by
  obtain ⟨e0,he0⟩:∃ e,e∈c:=by
    cases c with
    | nil=>exact (hc rfl).elim
    | cons a l=>exact ⟨a,by simp⟩
  unfold farC
  rcases farF_ok (r:=r) (rs c) (-1) (-1) with h | ⟨_,h2⟩ | ⟨h1,h2,h3⟩
  · refine ⟨rs_mem.1 h.1,fun e he => ?_⟩
    rw [List.idxOf_eq_length h.2]
    exact List.idxOf_le_length
  · have:=h2 e0 (rs_mem.2 he0)
    omega
  · exact ⟨rs_mem.1 h1,fun e he=>h3 e (rs_mem.2 he)⟩
theorem grC_perm {k:Nat} {f:List Int→List Int→Int} (hf:∀ r c c':List Int,c.Perm c'→f r c=f r c'):∀ (r c c':List Int),c.Perm c'→grC k f r c=grC k f r c'
  | [],_,_,_=>rfl
  | x::r,c,c',h=>by
    unfold grC
    rw [hf r c c' h,h.length_eq]
    by_cases hx:x∈c
    · rw [if_pos hx,if_pos (h.mem_iff.1 hx),grC_perm hf r c c' h]
    · rw [if_neg hx,if_neg fun h1=>hx (h.mem_iff.2 h1),grC_perm hf r (x::c) (x::c') (h.cons _),grC_perm hf r (x::c.erase (f r c')) (x::c'.erase (f r c')) ((h.erase _).cons _)]
theorem farC_perm (r c c':List Int) (h:c.Perm c'):farC r c=farC r c':=by
  unfold farC
  rw [rs_congr fun x=>h.mem_iff]
/-! ### the plan of the farthest next request -/
def nwS (k:Nat) (xs:List Int):Nat→List Int
  | 0=>[]
  | i+1=>if (nwS k xs i).contains (xs.getD i 0)=true then nwS k xs i else (if (nwS k xs i).length=k then (nwS k xs i).filter (fun y => !decide (y=farC (xs.drop (i+1)) (nwS k xs i))) else nwS k xs i)++[xs.getD i 0]
def lvS (k:Nat) (xs:List Int) (i:Nat):Int:=if (nwS k xs i).contains (xs.getD i 0)=true then -1 else if (nwS k xs i).length=k then farC (xs.drop (i+1)) (nwS k xs i) else -1
def fpS (k:Nat) (xs:List Int) (i:Nat):List Int:=(List.range i).map (lvS k xs)
theorem fpS_succ (k:Nat) (xs:List Int) (i:Nat):fpS k xs (i+1)=fpS k xs i++[lvS k xs i]:=by
  unfold fpS
  rw [List.range_succ,List.map_append]
  rfl
theorem fpS_len (k:Nat) (xs:List Int) (i:Nat):(fpS k xs i).length=i:=by simp [fpS]
theorem fpS_at {k:Nat} {xs:List Int} {i n:Nat} (h:i<n):(fpS k xs n).getD i 0=lvS k xs i:=by
  rw [getD_inL (by rw [fpS_len];exact h)]
  simp [fpS]
/-- the plan is possible, and its faults are those of leaving out the farthest page -/
theorem far_run {k:Nat} {xs:List Int} (hk:1≤k) (hx:∀ x∈xs,0≤x):∀ i,i≤xs.length→(nwS k xs i).length≤k∧∃ outs faults,plRun k xs (fpS k xs xs.length) i=some ⟨nwS k xs i,outs,faults⟩∧faults+grC k farC (xs.drop i) (nwS k xs i)=grC k farC xs []
  | 0,_=>⟨Nat.zero_le _,[],0,rfl,by rw [List.drop_zero,Nat.zero_add];rfl⟩
  | i+1,hi=>by
    obtain ⟨hl,outs,faults,h1,h2⟩:=far_run hk hx i (by omega)
    have hnd:=plRun_nodup i _ h1
    have hps:=plRun_pos hx i _ (by omega) h1
    have h3:=plRun_next h1
    dsimp only at hnd hps h3
    rw [fpS_at (show i<xs.length by omega)] at h3
    have hdr:xs.drop i=xs.getD i 0::xs.drop (i+1):=by rw [List.drop_eq_getElem_cons (show i<xs.length by omega),getD_inL (show i<xs.length by omega)]
    rw [hdr] at h2
    unfold nwS
    unfold lvS at h3
    generalize grC k farC xs []=G at h2 ⊢
    unfold grC at h2
    generalize nwS k xs i=c at *
    generalize xs.getD i 0=x at *
    generalize xs.drop (i+1)=r at *
    cases hc:c.contains x
    · have hxc:x ∉ c:=fun h=>by rw [List.contains_iff_mem.2 h] at hc;cases hc
      rw [if_neg hxc] at h2
      simp only [hc,Bool.false_eq_true,if_false] at h3 ⊢
      by_cases hf:c.length=k
      · rw [if_pos hf] at h3 ⊢
        rw [if_neg (by omega)] at h2
        have hcn:c≠[]:=fun e=>by subst e;simp at hf;omega
        have hfar:=(far_ok r c hcn).1
        generalize farC r c=l at *
        have hlc:c.contains l=true:=List.contains_iff_mem.2 hfar
        have he:c.eraseIdx (c.idxOf l)=c.erase l:=(List.erase_eq_eraseIdx_of_idxOf rfl).symm
        have hfe:c.filter (fun y => !decide (y=l))=c.erase l:=by
          rw [hnd.erase_eq_filter]
          exact List.filter_congr fun y _=>by
            by_cases e:y=l<;>simp [e]
        have hel:=List.length_erase_of_mem hfar
        have hcl:=List.length_pos_of_mem hfar
        rw [hfe]
        have hlen:(c.erase l++[x]).length=k:=by rw [List.length_append,hel,List.length_singleton];omega
        rw [plStep_miss hc (.inl hlc) (by rw [he,hlen];omega),he] at h3
        refine ⟨by omega,_,_,h3,?_⟩
        rw [grC_perm farC_perm r (c.erase l++[x]) (x::c.erase l) (List.perm_append_comm)]
        omega
      · rw [if_neg hf] at h3 ⊢
        rw [if_pos (by omega)] at h2
        have hn1:c.contains (-1)=false:=not_has hps (by decide)
        have hlen:(c++[x]).length=c.length+1:=by simp
        rw [plStep_miss hc (.inr (by decide)) (by rw [idx_out hn1,hlen];omega),idx_out hn1] at h3
        refine ⟨by omega,_,_,h3,?_⟩
        rw [grC_perm farC_perm r (c++[x]) (x::c) (List.perm_append_comm)]
        omega
    · have hxc:x∈c:=List.contains_iff_mem.1 hc
      rw [if_pos hxc] at h2
      simp only [hc,if_true] at h3 ⊢
      rw [plStep_hit hc (by decide)] at h3
      exact ⟨hl,_,_,h3,by omega⟩
/-- the fewest faults -/
def fewN (k:Nat) (xs:List Int):Nat:=grC k farC xs []
theorem far_faults {k:Nat} {xs:List Int} (hk:1≤k) (hx:∀ x∈xs,0≤x):∃ s,plRun k xs (fpS k xs xs.length) xs.length=some s∧s.faults=fewN k xs:=by
  obtain ⟨_,outs,faults,h1,h2⟩:=far_run hk hx xs.length (Nat.le_refl _)
  refine ⟨_,h1,?_⟩
  rw [List.drop_length] at h2
  unfold fewN
  rw [← h2]
  rfl
theorem table_few {k n:Nat} {xs:List Int} (hk:1≤k) (hx:∀ i,i<xs.length→∃ p:Nat,xs.getD i 0=(p:Int)∧p<n):tS k n xs xs.length 0=(fewN k xs:Int):=by
  have hm:memS n 0=[]:=by simp [memS]
  obtain ⟨m,h1,h2,h3⟩:=tS_min hk hx xs.length (Nat.le_refl _) 0 (by unfold sizS;rw [hm];exact Nat.zero_le _)
  rw [Nat.sub_self,List.drop_zero,hm] at h2 h3
  have h4:=greedy_best hk far_ok xs [] m List.nodup_nil (Nat.zero_le _) h2
  have h5:=h3 _ (greedy_pl hk far_ok xs [] (Nat.zero_le _))
  rw [h1]
  unfold fewN
  omega
/-- a possible plan serves the requests -/
theorem run_pl {k:Nat} {xs ps:List Int} (hx:∀ x∈xs,0≤x) {s:PlS} (h:plRun k xs ps xs.length=some s):∀ d,d≤xs.length→∃ t,plRun k xs ps (xs.length-d)=some t∧t.faults≤s.faults∧Pl k (xs.drop (xs.length-d)) t.now (s.faults-t.faults)
  | 0,_=>⟨s,h,Nat.le_refl _,by rw [Nat.sub_zero,List.drop_length,Nat.sub_self];exact .nil _⟩
  | d+1,hd=>by
    obtain ⟨t,h1,h2,h3⟩:=run_pl hx h d (by omega)
    have hi:xs.length-(d+1)<xs.length:=by omega
    have e1:xs.length-d=xs.length-(d+1)+1:=by omega
    rw [e1] at h1 h3
    generalize xs.length-(d+1)=i at *
    cases h4:plRun k xs ps i with
    | none=>rw [plRun_dead h4 _ (Nat.le_succ i)] at h1;cases h1
    | some t0 =>
      have h5:=plRun_next h4
      have hnd:=plRun_nodup i _ h4
      have hps:=plRun_pos hx i _ (by omega) h4
      rw [h1] at h5
      have hdr:xs.drop i=xs.getD i 0::xs.drop (i+1):=by rw [List.drop_eq_getElem_cons hi,getD_inL hi]
      rw [hdr]
      refine ⟨t0,rfl,?_⟩
      generalize xs.getD i 0=x at *
      generalize ps.getD i 0=l at *
      obtain ⟨c,outs,faults⟩:=t0
      dsimp only at *
      cases hs:plStep k c x l with
      | none=>rw [hs] at h5;cases h5
      | some c' =>
        rw [hs] at h5
        cases h5
        dsimp only at *
        unfold plStep at hs
        cases hc:c.contains x
        · have hxc:x ∉ c:=fun h=>by rw [List.contains_iff_mem.2 h] at hc;cases hc
          simp only [hc,Bool.false_eq_true,if_false] at hs h2 h3
          have e2:s.faults-faults=s.faults-(faults+1)+1:=by omega
          rw [e2]
          refine ⟨by omega,?_⟩
          split at hs
          · cases hs
          · rename_i hno
            have hno:=not_or.1 hno
            cases hs
            cases hl:c.contains l
            · rw [idx_out hl] at h3 hno
              refine .in_ hxc ?_ (h3.perm List.perm_append_comm)
              have:=hno.2
              rw [List.length_append,List.length_singleton] at this
              omega
            · rw [← List.erase_eq_eraseIdx_of_idxOf rfl] at h3
              exact .out hxc (List.contains_iff_mem.1 hl) (h3.perm List.perm_append_comm)
        · simp only [hc,if_true] at hs h2 h3
          split at hs
          · cases hs
          · cases hs
            exact ⟨by omega,.hit (List.contains_iff_mem.1 hc) (by simpa using h3)⟩
theorem few_le {k:Nat} {xs ps:List Int} (hk:1≤k) (hx:∀ x∈xs,0≤x) {s:PlS} (h:plRun k xs ps xs.length=some s):fewN k xs≤s.faults:=by
  obtain ⟨t,h1,_,h3⟩:=run_pl hx h xs.length (Nat.le_refl _)
  rw [Nat.sub_self] at h1 h3
  cases h1
  rw [List.drop_zero] at h3
  exact greedy_best hk far_ok xs [] _ List.nodup_nil (Nat.zero_le _) h3
end Go.Proofs.YtjblpcgkffhgfaaGreat
