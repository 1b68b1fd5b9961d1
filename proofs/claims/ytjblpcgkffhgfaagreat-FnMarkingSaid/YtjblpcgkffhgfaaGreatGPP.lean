/- Plans, marks and their bounds: the plain laws. Conditions: those that each names. -/
import Derived.Test.YtjblpcgkffhgfaaGreatGRQ
import Derived.ProofKit
set_option linter.all false
set_option linter.unusedSimpArgs false
set_option linter.unusedVariables false
namespace Go.Proofs.YtjblpcgkffhgfaaGreat

/-! ### plans -/
/-- the pages in the cache behind a request, in the order in which they came, where what leaves is told; none if it cannot be -/
def plStep (k:Int) (c:List Int) (page leaves:Int):Option (List Int) :=
  if c.contains page=true then (if 0≤leaves then none else some c)
  else if (c.contains leaves=false∧0≤leaves)∨k<(((c.eraseIdx (c.idxOf leaves))++[page]).length:Int) then none
  else some (c.eraseIdx (c.idxOf leaves)++[page])
structure PlS where
  now:List Int
  outs:List (List Int)
  faults:Nat
def plRun (k:Int) (xs ps:List Int):Nat→Option PlS
  | 0=>some ⟨[],[],0⟩
  | i+1=>match plRun k xs ps i with
    | none=>none
    | some s=>match plStep k s.now (xs.getD i 0) (ps.getD i 0) with
      | none=>none
      | some c=>some ⟨c,s.outs++[rs c],s.faults+(if s.now.contains (xs.getD i 0)=true then 0 else 1)⟩
theorem idx_out {c:List Int} {x:Int} (h:c.contains x=false):c.eraseIdx (c.idxOf x)=c:=by
  have h1:x ∉ c:=fun h2=>by rw [List.contains_iff_mem.2 h2] at h;cases h
  rw [List.idxOf_eq_length h1,List.eraseIdx_of_length_le (Nat.le_refl _)]
theorem erase_nodup {c:List Int} (h:c.Nodup) (i:Nat):(c.eraseIdx i).Nodup:=h.sublist (List.eraseIdx_sublist _ _)
theorem erase_mem {c:List Int} (h:c.Nodup) {x y:Int}:y∈c.eraseIdx (c.idxOf x)↔y∈c∧y≠x:=by
  by_cases hx:x∈c
  · rw [← List.erase_eq_eraseIdx_of_idxOf (by rfl:c.idxOf x=_)]
    rw [List.Nodup.mem_erase_iff h]
    exact And.comm
  · rw [List.idxOf_eq_length hx,List.eraseIdx_of_length_le (Nat.le_refl _)]
    refine ⟨fun h1=>⟨h1,fun e=>hx (e ▸ h1)⟩,And.left⟩
theorem plStep_nodup {k:Int} {c c':List Int} {p l:Int} (h:c.Nodup) (hs:plStep k c p l=some c'):c'.Nodup:=by
  unfold plStep at hs
  split at hs
  · split at hs
    · cases hs
    · cases hs;exact h
  · rename_i hp
    split at hs
    · cases hs
    · cases hs
      rw [List.nodup_append]
      refine ⟨erase_nodup h _,by simp,fun x hx y hy => ?_⟩
      rw [List.mem_singleton] at hy
      subst hy
      intro e
      subst e
      exact hp (List.contains_iff_mem.2 ((erase_mem h).1 hx).1)
theorem plRun_nodup {k:Int} {xs ps:List Int}:∀ (i:Nat) (s:PlS),plRun k xs ps i=some s→s.now.Nodup
  | 0,s,h=>by cases h;exact List.nodup_nil
  | i+1,s,h=>by
    simp only [plRun] at h
    split at h
    · cases h
    · rename_i s0 h0
      split at h
      · cases h
      · rename_i c hc
        cases h
        exact plStep_nodup (plRun_nodup i s0 h0) hc
theorem plStep_len {k:Int} {c c':List Int} {p l:Int} (hk:(c.length:Int)≤k) (hs:plStep k c p l=some c'):(c'.length:Int)≤k:=by
  unfold plStep at hs
  split at hs
  · split at hs
    · cases hs
    · cases hs;exact hk
  · split at hs
    · cases hs
    · rename_i h
      cases hs
      exact Int.not_lt.1 fun h1=>h (.inr h1)
theorem plRun_len {k:Int} (hk:0≤k) {xs ps:List Int}:∀ (i:Nat) (s:PlS),plRun k xs ps i=some s→(s.now.length:Int)≤k∧s.outs.length=i∧s.faults≤i
  | 0,s,h=>by cases h;exact ⟨hk,rfl,Nat.le_refl _⟩
  | i+1,s,h=>by
    simp only [plRun] at h
    split at h
    · cases h
    · rename_i s0 h0
      have ih:=plRun_len hk i s0 h0
      split at h
      · cases h
      · rename_i c hc
        cases h
        refine ⟨plStep_len ih.1 hc,by simp [ih.2.1],?_⟩
        show s0.faults+_≤i+1
        split<;>omega
theorem plStep_short {k:Int} {c c':List Int} {p l:Int} (hs:plStep k c p l=some c'):c'.length≤c.length+1:=by
  unfold plStep at hs
  split at hs
  · split at hs
    · cases hs
    · cases hs;omega
  · split at hs
    · cases hs
    · cases hs
      have:(c.eraseIdx (c.idxOf l)).length≤c.length:=List.length_eraseIdx_le _ _
      rw [List.length_append]
      simpa using this
theorem plRun_short {k:Int} {xs ps:List Int}:∀ (i:Nat) (s:PlS),plRun k xs ps i=some s→s.now.length≤i
  | 0,s,h=>by cases h;exact Nat.le_refl _
  | i+1,s,h=>by
    simp only [plRun] at h
    split at h
    · cases h
    · rename_i s0 h0
      have ih:=plRun_short i s0 h0
      split at h
      · cases h
      · rename_i c hc
        cases h
        have:=plStep_short hc
        show c.length≤i+1
        omega
theorem plRun_dead {k:Int} {xs ps:List Int} {i:Nat} (h:plRun k xs ps i=none):∀ j,i≤j→plRun k xs ps j=none
  | 0,hj=>by
    obtain rfl:i=0:=by omega
    exact h
  | j+1,hj=>by
    rcases Nat.eq_or_lt_of_le hj with e | e
    · rw [← e];exact h
    · simp only [plRun,plRun_dead h j (by omega)]
theorem plRun_next {k:Int} {xs ps:List Int} {i:Nat} {s:PlS} (h:plRun k xs ps i=some s):plRun k xs ps (i+1)=match plStep k s.now (xs.getD i 0) (ps.getD i 0) with
    | none=>none
    | some c=>some ⟨c,s.outs++[rs c],s.faults+(if s.now.contains (xs.getD i 0)=true then 0 else 1)⟩:=by
  rw [plRun,h]
theorem plRun_pos {k:Int} {xs ps:List Int} (hx:∀ x∈xs,0≤x):∀ (i:Nat) (s:PlS),i≤xs.length→plRun k xs ps i=some s→∀ x∈s.now,0≤x
  | 0,s,_,h=>by cases h;simp
  | i+1,s,hi,h=>by
    simp only [plRun] at h
    split at h
    · cases h
    · rename_i s0 h0
      have ih:=plRun_pos hx i s0 (by omega) h0
      split at h
      · cases h
      · rename_i c hc
        cases h
        show ∀ x∈c,0≤x
        unfold plStep at hc
        split at hc
        · split at hc
          · cases hc
          · cases hc;exact ih
        · split at hc
          · cases hc
          · cases hc
            intro x h1
            rw [List.mem_append,List.mem_singleton] at h1
            rcases h1 with h1 | rfl
            · exact ih x (List.mem_of_mem_eraseIdx h1)
            · rw [getD_inL (by omega)]
              exact hx _ (List.getElem_mem _)
/-- a request with a page that is in the cache -/
theorem plStep_hit {k:Int} {c:List Int} {p l:Int} (h:c.contains p=true) (hl:¬ 0≤l):plStep k c p l=some c:=by
  unfold plStep
  rw [if_pos h,if_neg hl]
theorem plStep_hit0 {k:Int} {c:List Int} {p l:Int} (h:c.contains p=true) (hl:0≤l):plStep k c p l=none:=by
  unfold plStep
  rw [if_pos h,if_pos hl]
theorem plStep_miss0 {k:Int} {c:List Int} {p l:Int} (h:c.contains p=false) (hc:c.contains l=false) (hl:0≤l):plStep k c p l=none:=by
  unfold plStep
  rw [if_neg (by rw [h];decide),if_pos (.inl ⟨hc,hl⟩)]
theorem plStep_miss1 {k:Int} {c:List Int} {p l:Int} (h:c.contains p=false) (hk:k<(((c.eraseIdx (c.idxOf l))++[p]).length:Int)):plStep k c p l=none:=by
  unfold plStep
  rw [if_neg (by rw [h];decide),if_pos (.inr hk)]
theorem plStep_miss {k:Int} {c:List Int} {p l:Int} (h:c.contains p=false) (hc:c.contains l=true∨¬ 0≤l) (hk:¬ k<(((c.eraseIdx (c.idxOf l))++[p]).length:Int)):plStep k c p l=some (c.eraseIdx (c.idxOf l)++[p]):=by
  unfold plStep
  rw [if_neg (by rw [h];decide),if_neg]
  rintro (⟨h1,h2⟩ | h1)
  · rcases hc with h3 | h3
    · rw [h3] at h1;cases h1
    · exact h3 h2
  · exact hk h1
theorem not_has {c:List Int} {l:Int} (hp:∀ x∈c,0≤x) (hl:¬ 0≤l):c.contains l=false:=Bool.eq_false_iff.2 fun h=>hl (hp l (List.contains_iff_mem.1 h))
end Go.Proofs.YtjblpcgkffhgfaaGreat
/- Uses of pages, intervals, marks and their bounds: the plain laws. Conditions: those that each names. -/
set_option linter.all false
set_option linter.unusedSimpArgs false
set_option linter.unusedVariables false
namespace Go.Proofs.YtjblpcgkffhgfaaGreat

end Go.Proofs.YtjblpcgkffhgfaaGreat
/- The marks with the greatest bound: the plain law. Conditions: none. -/
set_option linter.all false
set_option linter.unusedSimpArgs false
set_option linter.unusedVariables false
namespace Go.Proofs.YtjblpcgkffhgfaaGreat

end Go.Proofs.YtjblpcgkffhgfaaGreat
/- Paging: what plans can cost, and that leaving out the page of the farthest next request is best. The plain laws. Conditions: those that each names. -/
set_option linter.all false
set_option linter.unusedSimpArgs false
set_option linter.unusedVariables false
namespace Go.Proofs.YtjblpcgkffhgfaaGreat

/-- with at most k pages in the cache, requests can be served from a cache on with so many faults -/
inductive Pl (k:Nat):List Int→List Int→Nat→Prop
  | nil (c:List Int):Pl k [] c 0
  | hit {x:Int} {r c:List Int} {n:Nat} (h:x∈c) (p:Pl k r c n):Pl k (x::r) c n
  | out {x e:Int} {r c:List Int} {n:Nat} (h:x ∉ c) (he:e∈c) (p:Pl k r (x::c.erase e) n):Pl k (x::r) c (n+1)
  | in_ {x:Int} {r c:List Int} {n:Nat} (h:x ∉ c) (hk:c.length<k) (p:Pl k r (x::c) n):Pl k (x::r) c (n+1)
theorem Pl.perm {k:Nat}:∀ {r c c':List Int} {n:Nat},Pl k r c n→c.Perm c'→Pl k r c' n
  | _,_,_,_,.nil c,h => .nil _
  | _,_,_,_,.hit h p,q => .hit (q.mem_iff.1 h) (p.perm q)
  | _,_,_,_,.out h he p,q => .out (fun hx=>h (q.mem_iff.2 hx)) (q.mem_iff.1 he) (p.perm ((q.erase _).cons _))
  | _,_,_,_,.in_ h hk p,q => .in_ (fun hx=>h (q.mem_iff.2 hx)) (by rw [← q.length_eq];exact hk) (p.perm (q.cons _))
section
variable {k:Nat}
theorem perm3 (a b:Int) (l:List Int):(a::b::l).Perm (b::a::l):=List.Perm.swap ..
theorem nodup_put {x e:Int} {u:List Int} (h:u.Nodup) (hx:x ∉ u):(x::u.erase e).Nodup:=List.nodup_cons.2 ⟨fun hm=>hx (List.mem_of_mem_erase hm),h.erase e⟩
/-- one page more is no harm -/
theorem pl_more:∀ {r u:List Int} {n:Nat} {c:Int},Pl k r u n→u.Nodup→c ∉ u→u.length+1≤k→∃ n',n'≤n∧Pl k r (c::u) n'
  | _,_,_,_,.nil _,_,_,_=>⟨0,Nat.le_refl _,.nil _⟩
  | _,_,_,_,.hit h p,hu,hc,hk=>by
    obtain ⟨n',h1,h2⟩:=pl_more p hu hc hk
    exact ⟨n',h1,.hit (List.mem_cons_of_mem _ h) h2⟩
  | _,u,_,c,.out (x:=x) (e:=e) h he p,hu,hc,hk=>by
    have hec:e≠c:=fun e1=>hc (e1 ▸ he)
    have hl:(u.erase e).length=u.length-1:=List.length_erase_of_mem he
    have hul:0<u.length:=List.length_pos_of_mem he
    by_cases hx:x=c
    · subst hx
      obtain ⟨n',h1,h2⟩:=pl_more (c:=e) p (nodup_put hu h) (by
        simp only [List.mem_cons,not_or]
        exact ⟨hec,fun hm=>(hu.mem_erase_iff.1 hm).1 rfl⟩) (by rw [List.length_cons,hl];omega)
      exact ⟨n',by omega,.hit (by simp) (h2.perm ((perm3 _ _ _).trans ((List.perm_cons_erase he).symm.cons _)))⟩
    · obtain ⟨n',h1,h2⟩:=pl_more (c:=c) p (nodup_put hu h) (by
        simp only [List.mem_cons,not_or]
        exact ⟨fun e1=>hx e1.symm,fun hm=>hc (List.mem_of_mem_erase hm)⟩) (by rw [List.length_cons,hl];omega)
      refine ⟨n'+1,by omega,.out (e:=e) ?_ (List.mem_cons_of_mem _ he) ?_⟩
      · simp only [List.mem_cons,not_or]
        exact ⟨hx,h⟩
      · rw [List.erase_cons_tail (by simpa using fun e1=>hec e1.symm)]
        exact h2.perm (perm3 _ _ _)
  | _,u,_,c,.in_ (x:=x) h hk' p,hu,hc,hk=>by
    by_cases hx:x=c
    · subst hx
      exact ⟨_,Nat.le_succ _,.hit (by simp) p⟩
    · have hxc:x ∉ c::u:=by
        simp only [List.mem_cons,not_or]
        exact ⟨hx,h⟩
      by_cases hlt:u.length+1<k
      · obtain ⟨n',h1,h2⟩:=pl_more (c:=c) p (List.nodup_cons.2 ⟨h,hu⟩) (by
          simp only [List.mem_cons,not_or]
          exact ⟨fun e1=>hx e1.symm,hc⟩) (by rw [List.length_cons];omega)
        exact ⟨n'+1,by omega,.in_ hxc (by rw [List.length_cons];exact hlt) (h2.perm (perm3 _ _ _))⟩
      · refine ⟨_,Nat.le_refl _,.out (e:=c) hxc (by simp) ?_⟩
        rw [List.erase_cons_head]
        exact p
/-- one page less costs at most one fault -/
theorem pl_less:∀ {r u c:List Int} {n:Nat} {b:Int},Pl k r c n→c.Perm (b::u)→(b::u).Nodup→u.length+1≤k→∃ n',n'≤n+1∧Pl k r u n'
  | _,_,_,_,_,.nil _,_,_,_=>⟨0,by omega,.nil _⟩
  | _,u,_,_,b,.hit (x:=x) h p,q,hu,hk=>by
    have hu2:=List.nodup_cons.1 hu
    by_cases hx:x=b
    · subst hx
      exact ⟨_,Nat.le_refl _,.in_ hu2.1 (by omega) (p.perm q)⟩
    · have hxu:x∈u:=(List.mem_cons.1 (q.mem_iff.1 h)).resolve_left hx
      obtain ⟨n',h1,h2⟩:=pl_less p q hu hk
      exact ⟨n',h1,.hit hxu h2⟩
  | _,u,_,_,b,.out (x:=x) (e:=e) h he p,q,hu,hk=>by
    have hu2:=List.nodup_cons.1 hu
    have hxb:x ∉ b::u:=fun hm=>h (q.mem_iff.2 hm)
    simp only [List.mem_cons,not_or] at hxb
    have q2:=(q.erase e).cons x
    by_cases hb:e=b
    · subst hb
      rw [List.erase_cons_head] at q2
      exact ⟨_,Nat.le_succ _,.in_ hxb.2 (by omega) (p.perm q2)⟩
    · have heu:e∈u:=(List.mem_cons.1 (q.mem_iff.1 he)).resolve_left hb
      rw [List.erase_cons_tail (by simpa using fun e1=>hb e1.symm)] at q2
      have hl:(u.erase e).length=u.length-1:=List.length_erase_of_mem heu
      have hul:0<u.length:=List.length_pos_of_mem heu
      obtain ⟨n',h1,h2⟩:=pl_less (u:=x::u.erase e) (b:=b) p (q2.trans (perm3 _ _ _)) (List.nodup_cons.2 ⟨by
        simp only [List.mem_cons,not_or]
        exact ⟨fun e1=>hxb.1 e1.symm,fun hm=>hu2.1 (List.mem_of_mem_erase hm)⟩,nodup_put hu2.2 hxb.2⟩) (by rw [List.length_cons,hl];omega)
      exact ⟨n'+1,by omega,.out hxb.2 heu h2⟩
  | _,u,_,_,b,.in_ (x:=x) h hk' p,q,hu,hk=>by
    have hu2:=List.nodup_cons.1 hu
    have hxb:x ∉ b::u:=fun hm=>h (q.mem_iff.2 hm)
    simp only [List.mem_cons,not_or] at hxb
    have hql:=q.length_eq
    rw [List.length_cons] at hql
    obtain ⟨n',h1,h2⟩:=pl_less (u:=x::u) (b:=b) p ((q.cons x).trans (perm3 _ _ _)) (List.nodup_cons.2 ⟨by
      simp only [List.mem_cons,not_or]
      exact ⟨fun e1=>hxb.1 e1.symm,hu2.1⟩,List.nodup_cons.2 ⟨hxb.2,hu2.2⟩⟩) (by rw [List.length_cons];omega)
    exact ⟨n'+1,by omega,.in_ hxb.2 (by omega) h2⟩
theorem idx_tail {x a:Int} {r:List Int} (h:x≠a):(x::r).idxOf a=r.idxOf a+1:=by
  rw [List.idxOf_cons]
  rw [show (x == a)=false by simpa using h]
  rfl
/-- a page that is requested sooner is as good -/
theorem pl_swap:∀ {r u c:List Int} {n:Nat} {a b:Int},Pl k r c n→c.Perm (b::u)→(b::u).Nodup→a ∉ u→a≠b→u.length+1≤k→r.idxOf a≤r.idxOf b→∃ n',n'≤n∧Pl k r (a::u) n'
  | _,_,_,_,_,_,.nil _,_,_,_,_,_,_=>⟨0,Nat.le_refl _,.nil _⟩
  | _,u,_,_,a,b,.hit (x:=x) (r:=r) h p,q,hu,ha,hab,hk,hn=>by
    have hu2:=List.nodup_cons.1 hu
    by_cases hxb:x=b
    · exfalso
      subst hxb
      rw [List.idxOf_cons_self,idx_tail (fun e=>hab e.symm)] at hn
      omega
    · have hxu:x∈u:=(List.mem_cons.1 (q.mem_iff.1 h)).resolve_left hxb
      have hxa:x≠a:=fun e=>ha (e ▸ hxu)
      rw [idx_tail hxa,idx_tail hxb] at hn
      obtain ⟨n',h1,h2⟩:=pl_swap p q hu ha hab hk (by omega)
      exact ⟨n',h1,.hit (List.mem_cons_of_mem _ hxu) h2⟩
  | _,u,_,_,a,b,.out (x:=x) (e:=e) (n:=m) h he p,q,hu,ha,hab,hk,hn=>by
    have hu2:=List.nodup_cons.1 hu
    have hxb:x ∉ b::u:=fun hm=>h (q.mem_iff.2 hm)
    simp only [List.mem_cons,not_or] at hxb
    have q2:=(q.erase e).cons x
    by_cases hxa:x=a
    · subst hxa
      by_cases hb:e=b
      · subst hb
        rw [List.erase_cons_head] at q2
        exact ⟨m,Nat.le_succ _,.hit (by simp) (p.perm q2)⟩
      · have heu:e∈u:=(List.mem_cons.1 (q.mem_iff.1 he)).resolve_left hb
        rw [List.erase_cons_tail (by simpa using fun e1=>hb e1.symm)] at q2
        have hl:(u.erase e).length=u.length-1:=List.length_erase_of_mem heu
        have hul:0<u.length:=List.length_pos_of_mem heu
        have hnd:(x::u.erase e).Nodup:=nodup_put hu2.2 ha
        obtain ⟨n1,h1,h2⟩:=pl_less (u:=x::u.erase e) (b:=b) p (q2.trans (perm3 _ _ _)) (List.nodup_cons.2 ⟨by
          simp only [List.mem_cons,not_or]
          exact ⟨fun e1=>hab e1.symm,fun hm=>hu2.1 (List.mem_of_mem_erase hm)⟩,hnd⟩) (by rw [List.length_cons,hl];omega)
        obtain ⟨n2,h3,h4⟩:=pl_more (c:=e) h2 hnd (by
          simp only [List.mem_cons,not_or]
          exact ⟨fun e1=>ha (e1 ▸ heu),fun hm=>(hu2.2.mem_erase_iff.1 hm).1 rfl⟩) (by rw [List.length_cons,hl];omega)
        exact ⟨n2,by omega,.hit (by simp) (h4.perm ((perm3 _ _ _).trans ((List.perm_cons_erase heu).symm.cons _)))⟩
    · rw [idx_tail hxa,idx_tail hxb.1] at hn
      have hxs:x ∉ a::u:=by
        simp only [List.mem_cons,not_or]
        exact ⟨hxa,hxb.2⟩
      by_cases hb:e=b
      · subst hb
        rw [List.erase_cons_head] at q2
        refine ⟨m+1,Nat.le_refl _,.out (e:=a) hxs (by simp) ?_⟩
        rw [List.erase_cons_head]
        exact p.perm q2
      · have heu:e∈u:=(List.mem_cons.1 (q.mem_iff.1 he)).resolve_left hb
        have hea:e≠a:=fun e1=>ha (e1 ▸ heu)
        rw [List.erase_cons_tail (by simpa using fun e1=>hb e1.symm)] at q2
        have hl:(u.erase e).length=u.length-1:=List.length_erase_of_mem heu
        have hul:0<u.length:=List.length_pos_of_mem heu
        obtain ⟨n',h1,h2⟩:=pl_swap (u:=x::u.erase e) (a:=a) (b:=b) p (q2.trans (perm3 _ _ _)) (List.nodup_cons.2 ⟨by
          simp only [List.mem_cons,not_or]
          exact ⟨fun e1=>hxb.1 e1.symm,fun hm=>hu2.1 (List.mem_of_mem_erase hm)⟩,nodup_put hu2.2 hxb.2⟩) (by
          simp only [List.mem_cons,not_or]
          exact ⟨fun e1=>hxa e1.symm,fun hm=>ha (List.mem_of_mem_erase hm)⟩) hab (by rw [List.length_cons,hl];omega) (by omega)
        refine ⟨n'+1,by omega,.out (e:=e) hxs (List.mem_cons_of_mem _ heu) ?_⟩
        rw [List.erase_cons_tail (by simpa using fun e1=>hea e1.symm)]
        exact h2.perm (perm3 _ _ _)
  | _,u,_,_,a,b,.in_ (x:=x) (n:=m) h hk' p,q,hu,ha,hab,hk,hn=>by
    have hu2:=List.nodup_cons.1 hu
    have hxb:x ∉ b::u:=fun hm=>h (q.mem_iff.2 hm)
    simp only [List.mem_cons,not_or] at hxb
    have hql:=q.length_eq
    rw [List.length_cons] at hql
    have q2:=(q.cons x).trans (perm3 x b u)
    have hb2:(b::x::u).Nodup:=List.nodup_cons.2 ⟨by
      simp only [List.mem_cons,not_or]
      exact ⟨fun e1=>hxb.1 e1.symm,hu2.1⟩,List.nodup_cons.2 ⟨hxb.2,hu2.2⟩⟩
    by_cases hxa:x=a
    · subst hxa
      obtain ⟨n',h1,h2⟩:=pl_less (u:=x::u) (b:=b) p q2 hb2 (by rw [List.length_cons];omega)
      exact ⟨n',by omega,.hit (by simp) h2⟩
    · rw [idx_tail hxa,idx_tail hxb.1] at hn
      obtain ⟨n',h1,h2⟩:=pl_swap (u:=x::u) (a:=a) (b:=b) p q2 hb2 (by
        simp only [List.mem_cons,not_or]
        exact ⟨fun e1=>hxa e1.symm,ha⟩) hab (by rw [List.length_cons];omega) (by omega)
      exact ⟨n'+1,by omega,.in_ (by
        simp only [List.mem_cons,not_or]
        exact ⟨hxa,hxb.2⟩) (by rw [List.length_cons];omega) (h2.perm (perm3 _ _ _))⟩
end
/-! ### leaving out the page of the farthest next request -/
/-- what a run costs that leaves out a page only where the cache is full, and then one that is told -/
def grC (k:Nat) (f:List Int→List Int→Int):List Int→List Int→Nat
  | [],_=>0
  | x::r,c=>if x∈c then grC k f r c else if c.length<k then grC k f r (x::c)+1 else grC k f r (x::c.erase (f r c))+1
/-- a page of a cache that is requested last -/
def FarOK (f:List Int→List Int→Int):Prop:=∀ r c,c≠[]→f r c∈c∧∀ e∈c,r.idxOf e≤r.idxOf (f r c)
theorem greedy_best {k:Nat} (hk:1≤k) {f:List Int→List Int→Int} (hf:FarOK f):∀ (r c:List Int) (n:Nat),c.Nodup→c.length≤k→Pl k r c n→grC k f r c≤n
  | [],c,n,_,_,_=>by simp [grC]
  | x::r,c,n,hc,hl,p=>by
    unfold grC
    by_cases hx:x∈c
    · rw [if_pos hx]
      cases p with
      | hit _ p=>exact greedy_best hk hf r c _ hc hl p
      | out h _ _=>exact (h hx).elim
      | in_ h _ _=>exact (h hx).elim
    · rw [if_neg hx]
      have hxc:(x::c).Nodup:=List.nodup_cons.2 ⟨hx,hc⟩
      by_cases hlt:c.length<k
      · rw [if_pos hlt]
        cases p with
        | hit h _=>exact (hx h).elim
        | in_ _ _ p=>exact Nat.succ_le_succ (greedy_best hk hf r _ _ hxc (by rw [List.length_cons];omega) p)
        | out hx2 he p =>
          rename_i e m
          have hel:(c.erase e).length=c.length-1:=List.length_erase_of_mem he
          have hcl:0<c.length:=List.length_pos_of_mem he
          obtain ⟨n',h1,h2⟩:=pl_more (c:=e) p (nodup_put hc hx) (by
            simp only [List.mem_cons,not_or]
            exact ⟨fun e1=>hx (e1 ▸ he),fun hm=>(hc.mem_erase_iff.1 hm).1 rfl⟩) (by rw [List.length_cons,hel];omega)
          have h3:=greedy_best hk hf r (x::c) n' hxc (by rw [List.length_cons];omega) (h2.perm ((perm3 _ _ _).trans ((List.perm_cons_erase he).symm.cons _)))
          omega
      · rw [if_neg hlt]
        have hcn:c≠[]:=fun e=>by rw [e] at hlt hl;simp at hlt;omega
        obtain ⟨hfc,hfar⟩:=hf r c hcn
        generalize f r c=g at hfc hfar
        have hgl:(c.erase g).length=c.length-1:=List.length_erase_of_mem hfc
        have hcl:0<c.length:=List.length_pos_of_mem hfc
        have key:∀ m,Pl k r (x::c.erase g) m→grC k f r (x::c.erase g)≤m:=fun m p=>greedy_best hk hf r _ m (nodup_put hc hx) (by rw [List.length_cons,hgl];omega) p
        cases p with
        | hit h _=>exact (hx h).elim
        | in_ _ h _=>exact (hlt h).elim
        | out hx2 he p =>
          rename_i e m
          by_cases heg:e=g
          · subst heg
            exact Nat.succ_le_succ (key _ p)
          · have hge:g∈c.erase e:=hc.mem_erase_iff.2 ⟨fun e1=>heg e1.symm,hfc⟩
            have heg2:e∈c.erase g:=hc.mem_erase_iff.2 ⟨heg,he⟩
            have hnd:((c.erase e).erase g).Nodup:=(hc.erase e).erase g
            have hxn:x ∉ (c.erase e).erase g:=fun hm=>hx (List.mem_of_mem_erase (List.mem_of_mem_erase hm))
            have hlen:((c.erase e).erase g).length=c.length-2:=by rw [List.length_erase_of_mem hge,List.length_erase_of_mem he];omega
            have q1:(x::c.erase e).Perm (g::x::(c.erase e).erase g):=((List.perm_cons_erase hge).cons _).trans (perm3 _ _ _)
            have hl2:2≤c.length:=by
              have:=List.length_pos_of_mem hge
              rw [List.length_erase_of_mem he] at this
              omega
            obtain ⟨n',h1,h2⟩:=pl_swap (u:=x::(c.erase e).erase g) (a:=e) (b:=g) p q1 (List.nodup_cons.2 ⟨by
              simp only [List.mem_cons,not_or]
              exact ⟨fun e1=>hx (e1 ▸ hfc),fun hm=>((hc.erase e).mem_erase_iff.1 hm).1 rfl⟩,List.nodup_cons.2 ⟨hxn,hnd⟩⟩) (by
              simp only [List.mem_cons,not_or]
              exact ⟨fun e1=>hx (e1 ▸ he),fun hm=>(hc.mem_erase_iff.1 (List.mem_of_mem_erase hm)).1 rfl⟩) heg (by rw [List.length_cons,hlen];omega) (hfar e he)
            have q2:(e::x::(c.erase e).erase g).Perm (x::c.erase g):=by
              refine (perm3 _ _ _).trans (List.Perm.cons _ ?_)
              rw [List.erase_comm]
              exact (List.perm_cons_erase heg2).symm
            have h3:=key n' (h2.perm q2)
            omega
theorem greedy_pl {k:Nat} (hk:1≤k) {f:List Int→List Int→Int} (hf:FarOK f):∀ (r c:List Int),c.length≤k→Pl k r c (grC k f r c)
  | [],c,_ => .nil _
  | x::r,c,hl=>by
    unfold grC
    by_cases hx:x∈c
    · rw [if_pos hx]
      exact .hit hx (greedy_pl hk hf r c hl)
    · rw [if_neg hx]
      by_cases hlt:c.length<k
      · rw [if_pos hlt]
        exact .in_ hx hlt (greedy_pl hk hf r _ (by rw [List.length_cons];omega))
      · rw [if_neg hlt]
        have hcn:c≠[]:=fun e=>by rw [e] at hlt hl;simp at hlt;omega
        obtain ⟨hfc,_⟩:=hf r c hcn
        have hgl:(c.erase (f r c)).length=c.length-1:=List.length_erase_of_mem hfc
        have hcl:0<c.length:=List.length_pos_of_mem hfc
        exact .out hx hfc (greedy_pl hk hf r _ (by rw [List.length_cons,hgl];omega))
end Go.Proofs.YtjblpcgkffhgfaaGreat
/- Paging: the fewest faults, by the reference's table and by the plan of the farthest next request. The plain laws. Conditions: those that each names. -/
set_option linter.all false
set_option linter.unusedSimpArgs false
set_option linter.unusedVariables false
namespace Go.Proofs.YtjblpcgkffhgfaaGreat

/-! ### sets of pages as bits and as lists -/
def memS (n s:Nat):List Int:=((List.range n).filter fun i=>s.testBit i).map fun (i:Nat)=>(i:Int)
def sizS (n s:Nat):Nat:=(memS n s).length
/-- the set behind a request -/
def aftS (s p:Nat) (o:Int):Nat:=(if 0≤o then s-2 ^ o.toNat else s) ||| 2 ^ p
/-! ### the reference's table -/
def chS (k n s p:Nat):List Int:=if s.testBit p=true then [-1] else (if sizS n s<k then [-1] else [])++memS n s
def bestS (f:Int→Int) (l:List Int):Int:=l.foldl (fun b o=>if b<0∨f o<b then f o else b) (-1)
def tS (k n:Nat) (xs:List Int):Nat→Nat→Int
  | 0,_=>0
  | d+1,s=>if sizS n s≤k then bestS (fun o=>tS k n xs d (aftS s (xs.getD (xs.length-(d+1)) 0).toNat o)+if s.testBit (xs.getD (xs.length-(d+1)) 0).toNat=true then 0 else 1) (chS k n s (xs.getD (xs.length-(d+1)) 0).toNat) else -1
/-! ### the page of the farthest next request -/
def farF (r:List Int):List Int→Int→Int→Int
  | [],best,_=>best
  | p::c,best,far=>if r.contains p=true then (if far<(r.idxOf p:Int) then farF r c p (r.idxOf p) else farF r c best far) else p
theorem farF_ok {r:List Int}:∀ (c:List Int) (best far:Int),(farF r c best far∈c∧farF r c best far ∉ r)∨(farF r c best far=best∧∀ e∈c,(r.idxOf e:Int)≤far)∨(farF r c best far∈c∧far<(r.idxOf (farF r c best far):Int)∧∀ e∈c,r.idxOf e≤r.idxOf (farF r c best far))
  | [],best,far => .inr (.inl ⟨rfl,fun _ h=>nomatch h⟩)
  | p::c,best,far=>by
    unfold farF
    by_cases hp:r.contains p=true
    · rw [if_pos hp]
      by_cases hf:far<(r.idxOf p:Int)
      · rw [if_pos hf]
        rcases farF_ok c p (r.idxOf p) with h | ⟨h1,h2⟩ | ⟨h1,h2,h3⟩
        · exact .inl ⟨List.mem_cons_of_mem _ h.1,h.2⟩
        · refine .inr (.inr ⟨by rw [h1];simp,by rw [h1];exact hf,fun e he => ?_⟩)
          rw [h1]
          rcases List.mem_cons.1 he with rfl | he
          · exact Nat.le_refl _
          · have:=h2 e he;omega
        · refine .inr (.inr ⟨List.mem_cons_of_mem _ h1,by omega,fun e he => ?_⟩)
          rcases List.mem_cons.1 he with rfl | he
          · omega
          · exact h3 e he
      · rw [if_neg hf]
        rcases farF_ok c best far with h | ⟨h1,h2⟩ | ⟨h1,h2,h3⟩
        · exact .inl ⟨List.mem_cons_of_mem _ h.1,h.2⟩
        · refine .inr (.inl ⟨h1,fun e he => ?_⟩)
          rcases List.mem_cons.1 he with rfl | he
          · omega
          · exact h2 e he
        · refine .inr (.inr ⟨List.mem_cons_of_mem _ h1,h2,fun e he => ?_⟩)
          rcases List.mem_cons.1 he with rfl | he
          · omega
          · exact h3 e he
    · rw [if_neg hp]
      exact .inl ⟨by simp,fun h=>hp (List.contains_iff_mem.2 h)⟩
def farC (r c:List Int):Int:=farF r (rs c) (-1) (-1)
theorem far_ok:FarOK farC:=fun r c hc=>by
  obtain ⟨e0,he0⟩:∃ e,e∈c:=by
    cases c with
    | nil=>exact (hc rfl).elim
    | cons a l=>exact ⟨a,by simp⟩
  unfold farC
  rcases farF_ok (r:=r) (rs c) (-1) (-1) with h | ⟨_,h2⟩ | ⟨h1,h2,h3⟩
  · refine ⟨rs_mem.1 h.1,fun e he => ?_⟩
    rw [List.idxOf_eq_length h.2]
    exact List.idxOf_le_length
  · have:=h2 e0 (rs_mem.2 he0)
    omega
  · exact ⟨rs_mem.1 h1,fun e he=>h3 e (rs_mem.2 he)⟩
theorem grC_perm {k:Nat} {f:List Int→List Int→Int} (hf:∀ r c c':List Int,c.Perm c'→f r c=f r c'):∀ (r c c':List Int),c.Perm c'→grC k f r c=grC k f r c'
  | [],_,_,_=>rfl
  | x::r,c,c',h=>by
    unfold grC
    rw [hf r c c' h,h.length_eq]
    by_cases hx:x∈c
    · rw [if_pos hx,if_pos (h.mem_iff.1 hx),grC_perm hf r c c' h]
    · rw [if_neg hx,if_neg fun h1=>hx (h.mem_iff.2 h1),grC_perm hf r (x::c) (x::c') (h.cons _),grC_perm hf r (x::c.erase (f r c')) (x::c'.erase (f r c')) ((h.erase _).cons _)]
theorem farC_perm (r c c':List Int) (h:c.Perm c'):farC r c=farC r c':=by
  unfold farC
  rw [rs_congr fun x=>h.mem_iff]
/-! ### the plan of the farthest next request -/
def nwS (k:Nat) (xs:List Int):Nat→List Int
  | 0=>[]
  | i+1=>if (nwS k xs i).contains (xs.getD i 0)=true then nwS k xs i else (if (nwS k xs i).length=k then (nwS k xs i).filter (fun y => !decide (y=farC (xs.drop (i+1)) (nwS k xs i))) else nwS k xs i)++[xs.getD i 0]
def lvS (k:Nat) (xs:List Int) (i:Nat):Int:=if (nwS k xs i).contains (xs.getD i 0)=true then -1 else if (nwS k xs i).length=k then farC (xs.drop (i+1)) (nwS k xs i) else -1
def fpS (k:Nat) (xs:List Int) (i:Nat):List Int:=(List.range i).map (lvS k xs)
theorem fpS_succ (k:Nat) (xs:List Int) (i:Nat):fpS k xs (i+1)=fpS k xs i++[lvS k xs i]:=by
  unfold fpS
  rw [List.range_succ,List.map_append]
  rfl
theorem fpS_len (k:Nat) (xs:List Int) (i:Nat):(fpS k xs i).length=i:=by simp [fpS]
theorem fpS_at {k:Nat} {xs:List Int} {i n:Nat} (h:i<n):(fpS k xs n).getD i 0=lvS k xs i:=by
  rw [getD_inL (by rw [fpS_len];exact h)]
  simp [fpS]
/-- the plan is possible, and its faults are those of leaving out the farthest page -/
theorem far_run {k:Nat} {xs:List Int} (hk:1≤k) (hx:∀ x∈xs,0≤x):∀ i,i≤xs.length→(nwS k xs i).length≤k∧∃ outs faults,plRun k xs (fpS k xs xs.length) i=some ⟨nwS k xs i,outs,faults⟩∧faults+grC k farC (xs.drop i) (nwS k xs i)=grC k farC xs []
  | 0,_=>⟨Nat.zero_le _,[],0,rfl,by rw [List.drop_zero,Nat.zero_add];rfl⟩
  | i+1,hi=>by
    obtain ⟨hl,outs,faults,h1,h2⟩:=far_run hk hx i (by omega)
    have hnd:=plRun_nodup i _ h1
    have hps:=plRun_pos hx i _ (by omega) h1
    have h3:=plRun_next h1
    dsimp only at hnd hps h3
    rw [fpS_at (show i<xs.length by omega)] at h3
    have hdr:xs.drop i=xs.getD i 0::xs.drop (i+1):=by rw [List.drop_eq_getElem_cons (show i<xs.length by omega),getD_inL (show i<xs.length by omega)]
    rw [hdr] at h2
    unfold nwS
    unfold lvS at h3
    generalize grC k farC xs []=G at h2 ⊢
    unfold grC at h2
    generalize nwS k xs i=c at *
    generalize xs.getD i 0=x at *
    generalize xs.drop (i+1)=r at *
    cases hc:c.contains x
    · have hxc:x ∉ c:=fun h=>by rw [List.contains_iff_mem.2 h] at hc;cases hc
      rw [if_neg hxc] at h2
      simp only [hc,Bool.false_eq_true,if_false] at h3 ⊢
      by_cases hf:c.length=k
      · rw [if_pos hf] at h3 ⊢
        rw [if_neg (by omega)] at h2
        have hcn:c≠[]:=fun e=>by subst e;simp at hf;omega
        have hfar:=(far_ok r c hcn).1
        generalize farC r c=l at *
        have hlc:c.contains l=true:=List.contains_iff_mem.2 hfar
        have he:c.eraseIdx (c.idxOf l)=c.erase l:=(List.erase_eq_eraseIdx_of_idxOf rfl).symm
        have hfe:c.filter (fun y => !decide (y=l))=c.erase l:=by
          rw [hnd.erase_eq_filter]
          exact List.filter_congr fun y _=>by
            by_cases e:y=l<;>simp [e]
        have hel:=List.length_erase_of_mem hfar
        have hcl:=List.length_pos_of_mem hfar
        rw [hfe]
        have hlen:(c.erase l++[x]).length=k:=by rw [List.length_append,hel,List.length_singleton];omega
        rw [plStep_miss hc (.inl hlc) (by rw [he,hlen];omega),he] at h3
        refine ⟨by omega,_,_,h3,?_⟩
        rw [grC_perm farC_perm r (c.erase l++[x]) (x::c.erase l) (List.perm_append_comm)]
        omega
      · rw [if_neg hf] at h3 ⊢
        rw [if_pos (by omega)] at h2
        have hn1:c.contains (-1)=false:=not_has hps (by decide)
        have hlen:(c++[x]).length=c.length+1:=by simp
        rw [plStep_miss hc (.inr (by decide)) (by rw [idx_out hn1,hlen];omega),idx_out hn1] at h3
        refine ⟨by omega,_,_,h3,?_⟩
        rw [grC_perm farC_perm r (c++[x]) (x::c) (List.perm_append_comm)]
        omega
    · have hxc:x∈c:=List.contains_iff_mem.1 hc
      rw [if_pos hxc] at h2
      simp only [hc,if_true] at h3 ⊢
      rw [plStep_hit hc (by decide)] at h3
      exact ⟨hl,_,_,h3,by omega⟩
/-- the fewest faults -/
def fewN (k:Nat) (xs:List Int):Nat:=grC k farC xs []
theorem far_faults {k:Nat} {xs:List Int} (hk:1≤k) (hx:∀ x∈xs,0≤x):∃ s,plRun k xs (fpS k xs xs.length) xs.length=some s∧s.faults=fewN k xs:=by
  obtain ⟨_,outs,faults,h1,h2⟩:=far_run hk hx xs.length (Nat.le_refl _)
  refine ⟨_,h1,?_⟩
  rw [List.drop_length] at h2
  unfold fewN
  rw [← h2]
  rfl
end Go.Proofs.YtjblpcgkffhgfaaGreat
