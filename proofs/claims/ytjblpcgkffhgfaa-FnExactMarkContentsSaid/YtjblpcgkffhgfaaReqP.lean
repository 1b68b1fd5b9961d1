/- The different numbers of a list in rising order, and the phases of requests: the plain laws. Conditions: none. -/
import Derived.Lib.SlicesCompact
import Derived.Test.YtjblpcgkffhgfaaListP
set_option linter.all false
set_option linter.unusedSimpArgs false
set_option linter.unusedVariables false
namespace Go.Proofs.Ytjblpcgkffhgfaa

theorem getD_inL {α:Type} {xs:List α} {d:α} {k:Nat} (h:k<xs.length):xs.getD k d=xs[k]:=by simp [h]
def srt (xs:List Int):List Int:=xs.mergeSort fun x y=>decide (x≤y)
theorem srt_len (xs:List Int):(srt xs).length=xs.length:=List.length_mergeSort _
def cpt (xs:List Int):List Int:=Lib.compact xs
theorem cpt_len (xs:List Int):(cpt xs).length≤xs.length:=by
  unfold cpt Lib.compact Lib.compactUpTo
  rw [List.length_map]
  exact Nat.le_trans (List.length_filter_le _ _) (by simp)
/-- the different ones of numbers, in rising order -/
def rs (xs:List Int):List Int:=cpt (srt xs)
theorem srt_mem {x:Int} {xs:List Int}:x∈srt xs↔x∈xs:=List.mem_mergeSort
theorem srt_le (xs:List Int):(srt xs).Pairwise (·≤·):=by
  have h:=List.pairwise_mergeSort (le:=fun x y:Int=>decide (x≤y)) (fun a b c h1 h2=>by simp only [decide_eq_true_eq] at h1 h2 ⊢;omega) (fun a b=>by simp only [Bool.or_eq_true,decide_eq_true_eq];omega) xs
  exact h.imp fun h=>by simpa using h
structure CpI (xs:List Int) (m:Nat):Prop where
  lt:(Lib.compactUpTo xs.toArray m).Pairwise (·<·)
  mem:∀ x,x∈Lib.compactUpTo xs.toArray m↔x∈xs.take m
theorem cp_inv {xs:List Int} (h:xs.Pairwise (·≤·)):∀ m,m≤xs.length→CpI xs m
  | 0,_=>⟨by simp [Lib.compactUpTo],fun x=>by simp [Lib.compactUpTo]⟩
  | m+1,hm=>by
    have ih:=cp_inv h m (by omega)
    have hm':m<xs.length:=by omega
    have hg:xs.toArray[m]! = xs[m]:=by simp [hm']
    have htk:xs.take (m+1)=xs.take m++[xs[m]]:=List.take_succ_eq_append_getElem hm'
    have hle:∀ x∈xs.take m,x≤xs[m]:=fun x hx=>by
      obtain ⟨i,hi,rfl⟩:=List.getElem_of_mem hx
      rw [List.getElem_take]
      simp only [List.length_take] at hi
      exact List.pairwise_iff_getElem.1 h i m (by omega) hm' (by omega)
    cases hk:Lib.keeps xs.toArray m with
    | true =>
      have hs:Lib.compactUpTo xs.toArray (m+1)=Lib.compactUpTo xs.toArray m++[xs[m]]:=by rw [Lib.compactUpTo_succ,hk,hg];rfl
      have hlt:∀ x∈xs.take m,x<xs[m]:=fun x hx=>by
        obtain ⟨i,hi,rfl⟩:=List.getElem_of_mem hx
        rw [List.getElem_take]
        simp only [List.length_take] at hi
        unfold Lib.keeps at hk
        simp only [decide_eq_true_eq] at hk
        have hm0:m≠0:=by omega
        have h1:xs.toArray[m]! ≠ xs.toArray[m-1]! := hk.resolve_left hm0
        have h2:xs.toArray[m-1]! = xs[m-1]'(by omega):=by simp [show m-1<xs.length by omega]
        rw [hg,h2] at h1
        have h3:=List.pairwise_iff_getElem.1 h (m-1) m (by omega) hm' (by omega)
        have h4:xs[i]'(by omega)≤xs[m-1]'(by omega):=by
          rcases Nat.lt_or_ge i (m-1) with h5 | h5
          · exact List.pairwise_iff_getElem.1 h i (m-1) (by omega) (by omega) h5
          · have:i=m-1:=by omega
            subst this
            exact Int.le_refl _
        omega
      refine ⟨?_,fun x => ?_⟩
      · rw [hs,List.pairwise_append]
        refine ⟨ih.lt,List.pairwise_singleton _ _,fun x hx y hy => ?_⟩
        rw [List.mem_singleton] at hy
        subst hy
        exact hlt x ((ih.mem x).1 hx)
      · rw [hs,htk,List.mem_append,List.mem_append,ih.mem]
    | false =>
      have hs:Lib.compactUpTo xs.toArray (m+1)=Lib.compactUpTo xs.toArray m:=by rw [Lib.compactUpTo_succ,hk];simp
      unfold Lib.keeps at hk
      simp only [decide_eq_false_iff_not,not_or] at hk
      have h2:xs.toArray[m-1]! = xs[m-1]'(by omega):=by simp [show m-1<xs.length by omega]
      have h1:xs[m]=xs[m-1]'(by omega):=by
        have:=Classical.not_not.1 hk.2
        rw [hg,h2] at this
        exact this
      refine ⟨by rw [hs];exact ih.lt,fun x => ?_⟩
      rw [hs,htk,List.mem_append,List.mem_singleton,ih.mem]
      refine ⟨.inl,fun h3=>h3.elim id fun h4 => ?_⟩
      have hm1:m-1<(xs.take m).length:=by rw [List.length_take];omega
      have:(xs.take m)[m-1]=xs[m-1]'(by omega):=List.getElem_take
      rw [h4,h1,← this]
      exact List.getElem_mem _
theorem rs_lt (xs:List Int):(rs xs).Pairwise (·<·):=(cp_inv (srt_le xs) (srt xs).length (Nat.le_refl _)).lt
theorem rs_mem {x:Int} {xs:List Int}:x∈rs xs↔x∈xs:=by
  have h:=(cp_inv (srt_le xs) (srt xs).length (Nat.le_refl _)).mem x
  rw [List.take_length] at h
  exact h.trans srt_mem
/-- two strictly rising lists of the same numbers are the same -/
theorem lt_ext:∀ {a b:List Int},a.Pairwise (·<·)→b.Pairwise (·<·)→(∀ x,x∈a↔x∈b)→a=b
  | [],[],_,_,_=>rfl
  | [],y::b,_,_,h=>absurd ((h y).2 (by simp)) (by simp)
  | x::a,[],_,_,h=>absurd ((h x).1 (by simp)) (by simp)
  | x::a,y::b,ha,hb,h=>by
    rw [List.pairwise_cons] at ha hb
    have e:x=y:=by
      have h1:=(h x).1 (by simp)
      have h2:=(h y).2 (by simp)
      rw [List.mem_cons] at h1 h2
      rcases h1 with h1 | h1
      · exact h1
      · rcases h2 with h2 | h2
        · exact h2.symm
        · have:=hb.1 x h1
          have:=ha.1 y h2
          omega
    subst e
    refine congrArg _ (lt_ext ha.2 hb.2 fun z=>⟨fun hz => ?_,fun hz => ?_⟩)
    · have h1:=(h z).1 (by simp [hz])
      rw [List.mem_cons] at h1
      rcases h1 with rfl | h1
      · exact absurd (ha.1 _ hz) (by omega)
      · exact h1
    · have h1:=(h z).2 (by simp [hz])
      rw [List.mem_cons] at h1
      rcases h1 with rfl | h1
      · exact absurd (hb.1 _ hz) (by omega)
      · exact h1
theorem rs_of {a xs:List Int} (h:a.Pairwise (·<·)) (hm:∀ x,x∈a↔x∈xs):rs xs=a:=lt_ext (rs_lt xs) h fun x=>rs_mem.trans (hm x).symm
theorem rs_id {xs:List Int} (h:xs.Pairwise (·<·)):rs xs=xs:=rs_of h fun _=>Iff.rfl
theorem rs_len (xs:List Int):(rs xs).length≤xs.length:=Nat.le_trans (cpt_len _) (by rw [srt_len];exact Nat.le_refl _)
/-! ### a number is put to its place -/
/-- the first place whose number is not less -/
def plc (n:Int):List Int→Nat
  | []=>0
  | x::l=>if x<n then plc n l+1 else 0
theorem plc_le (n:Int):∀ l,plc n l≤l.length
  | []=>Nat.le_refl _
  | x::l=>by
    unfold plc
    split
    · have:=plc_le n l;simp;omega
    · exact Nat.zero_le _
theorem plc_lt {n:Int}:∀ {l:List Int} {i:Nat},i<plc n l→l.getD i 0<n
  | [],i,h=>by simp [plc] at h
  | x::l,i,h=>by
    unfold plc at h
    split at h
    · match i with
      | 0=>simpa
      | i+1=>simpa using plc_lt (l:=l) (i:=i) (by omega)
    · omega
theorem plc_ge {n:Int}:∀ {l:List Int},plc n l<l.length→n≤l.getD (plc n l) 0
  | [],h=>by simp at h
  | x::l,h=>by
    unfold plc at h ⊢
    split
    · rename_i h1
      rw [if_pos h1] at h
      simpa using plc_ge (l:=l) (by simpa using h)
    · simp;omega
def putL (l:List Int) (n:Int):List Int:=if plc n l<l.length∧l.getD (plc n l) 0=n then l else l.take (plc n l)++[n]++l.drop (plc n l)
theorem putL_mem {l:List Int} {n x:Int}:x∈putL l n↔x∈l∨x=n:=by
  unfold putL
  split
  · rename_i h
    refine ⟨.inl,fun h1=>h1.elim id fun h2 => ?_⟩
    rw [h2,← h.2,getD_inL h.1]
    exact List.getElem_mem _
  · have e:x∈l↔x∈l.take (plc n l)∨x∈l.drop (plc n l):=by
      rw [← List.mem_append,List.take_append_drop]
    rw [List.mem_append,List.mem_append,List.mem_singleton,e]
    constructor
    · rintro ((h | h) | h)
      · exact .inl (.inl h)
      · exact .inr h
      · exact .inl (.inr h)
    · rintro ((h | h) | h)
      · exact .inl (.inl h)
      · exact .inr h
      · exact .inl (.inr h)
theorem putL_lt {l:List Int} (h:l.Pairwise (·<·)) (n:Int):(putL l n).Pairwise (·<·):=by
  unfold putL
  split
  · exact h
  · rename_i hne
    have h1:∀ x∈l.take (plc n l),x<n:=fun x hx=>by
      obtain ⟨i,hi,rfl⟩:=List.getElem_of_mem hx
      simp only [List.length_take] at hi
      have:=plc_lt (n:=n) (l:=l) (i:=i) (by omega)
      rw [getD_inL (by omega)] at this
      rw [List.getElem_take]
      exact this
    have h2:∀ x∈l.drop (plc n l),n<x:=fun x hx=>by
      obtain ⟨i,hi,rfl⟩:=List.getElem_of_mem hx
      simp only [List.length_drop] at hi
      have h3:=plc_ge (n:=n) (l:=l) (by omega)
      have h4:l.getD (plc n l) 0≠n:=fun e=>hne ⟨by omega,e⟩
      rw [getD_inL (by omega)] at h3 h4
      rw [List.getElem_drop]
      rcases Nat.eq_zero_or_pos i with rfl | hi0
      · simp only [Nat.add_zero]
        omega
      · have:=List.pairwise_iff_getElem.1 h (plc n l) (plc n l+i) (by omega) (by omega) (by omega)
        omega
    rw [List.append_assoc,List.pairwise_append]
    refine ⟨h.sublist (List.take_sublist _ _),?_,fun x hx y hy => ?_⟩
    · rw [List.singleton_append,List.pairwise_cons]
      exact ⟨h2,h.sublist (List.drop_sublist _ _)⟩
    · rw [List.singleton_append,List.mem_cons] at hy
      rcases hy with rfl | hy
      · exact h1 x hx
      · exact Int.lt_trans (h1 x hx) (h2 y hy)
theorem rs_snoc (l:List Int) (x:Int):rs (l++[x])=putL (rs l) x:=rs_of (putL_lt (rs_lt l) x) fun y=>by rw [putL_mem,rs_mem,List.mem_append,List.mem_singleton]
theorem rs_nil:rs []=[]:=rs_id List.Pairwise.nil
theorem rs_one (x:Int):rs [x]=[x]:=rs_id (List.pairwise_singleton _ _)
theorem putL_len (l:List Int) (n:Int):(putL l n).length≤l.length+1:=by
  unfold putL
  have:=plc_le n l
  split
  · omega
  · simp;omega
/-! ### what is not in another list -/
def opn (l before:List Int):List Int:=l.filter fun x => !before.contains x
/-! ### phases -/
/-- the numbers from the place l on, ahead of the place h -/
def prt (l h:Nat) (xs:List Int):List Int:=(xs.take h).drop l
/-- the first places of phases among the first i requests; the last one -/
def phL (size:Int) (xs:List Int):Nat→List Nat
  | 0=>[]
  | i+1=>if phL size xs i=[]∨size<((rs (prt ((phL size xs i).getLastD 0) (i+1) xs)).length:Int) then phL size xs i++[i] else phL size xs i
theorem phL_mem {size:Int} {xs:List Int}:∀ i:Nat,∀ x∈phL size xs i,x<i
  | 0,x,h=>by simp [phL] at h
  | i+1,x,h=>by
    have ih:=phL_mem (size:=size) (xs:=xs) i x
    unfold phL at h
    split at h
    · rw [List.mem_append,List.mem_singleton] at h
      rcases h with h | rfl
      · have:=ih h;omega
      · omega
    · have:=ih h;omega
theorem phL_len {size:Int} {xs:List Int}:∀ i,(phL size xs i).length≤i
  | 0=>Nat.le_refl _
  | i+1=>by
    have ih:=phL_len (size:=size) (xs:=xs) i
    unfold phL
    split
    · simp;omega
    · omega
theorem phL_pos {size:Int} {xs:List Int} {i:Nat} (h:0<i):phL size xs i≠[]:=by
  obtain ⟨j,rfl⟩:∃ j,i=j+1:=⟨i-1,by omega⟩
  unfold phL
  split
  · simp
  · rename_i h1
    exact fun h2=>h1 (.inl h2)
theorem getLastD_le {l:List Nat} {n:Nat} (h:∀ x∈l,x≤n):l.getLastD 0≤n:=by
  cases l with
  | nil=>exact Nat.zero_le _
  | cons x l =>
    have e:(x::l).getLastD 0=(x::l).getLast (by simp):=by rw [List.getLastD_cons,← List.getLast_eq_getLastD]
    rw [e]
    exact h _ (List.getLast_mem _)
/-- the items of the phase that is open behind i requests -/
def itm (size:Int) (xs:List Int) (i:Nat):List Int:=rs (prt ((phL size xs i).getLastD 0) i xs)
theorem prt_next {l h:Nat} {xs:List Int} (hl:l≤h) (hh:h<xs.length):prt l (h+1) xs=prt l h xs++[xs.getD h 0]:=by
  unfold prt
  rw [List.take_succ_eq_append_getElem hh,List.drop_append_of_le_length (by rw [List.length_take];omega),getD_inL hh]
theorem prt_one {h:Nat} {xs:List Int} (hh:h<xs.length):prt h (h+1) xs=[xs.getD h 0]:=by
  rw [prt_next (Nat.le_refl _) hh]
  simp [prt]
theorem itm_put {size:Int} {xs:List Int} {i:Nat} (hi:i<xs.length):putL (itm size xs i) (xs.getD i 0)=rs (prt ((phL size xs i).getLastD 0) (i+1) xs):=by
  unfold itm
  rw [prt_next (getLastD_le fun x hx=>Nat.le_of_lt (phL_mem i x hx)) hi,rs_snoc]
theorem getLastD_snoc (l:List Nat) (x:Nat):(l++[x]).getLastD 0=x:=by simp
/-- how the open phase goes on -/
theorem itm_next {size:Int} {xs:List Int} {i:Nat} (hi:i<xs.length):itm size xs (i+1)=if i=0∨size<((putL (itm size xs i) (xs.getD i 0)).length:Int) then [xs.getD i 0] else putL (itm size xs i) (xs.getD i 0):=by
  have e:(phL size xs i=[]∨size<((rs (prt ((phL size xs i).getLastD 0) (i+1) xs)).length:Int))↔(i=0∨size<((putL (itm size xs i) (xs.getD i 0)).length:Int)):=by
    rw [itm_put hi]
    refine or_congr ⟨fun h => ?_,fun h=>by subst h;rfl⟩ Iff.rfl
    rcases Nat.eq_zero_or_pos i with h0 | h0
    · exact h0
    · exact absurd h (phL_pos h0)
  by_cases h:i=0∨size<((putL (itm size xs i) (xs.getD i 0)).length:Int)
  · rw [if_pos h]
    unfold itm
    rw [show phL size xs (i+1)=phL size xs i++[i] from if_pos (e.2 h),getLastD_snoc,prt_one hi,rs_one]
  · rw [if_neg h]
    unfold itm
    rw [show phL size xs (i+1)=phL size xs i from if_neg fun h1=>h (e.1 h1)]
    exact (itm_put hi).symm
theorem itm_len {size:Int} {xs:List Int} (i:Nat):(itm size xs i).length≤i:=by
  refine Nat.le_trans (rs_len _) ?_
  unfold prt
  rw [List.length_drop,List.length_take]
  omega
end Go.Proofs.Ytjblpcgkffhgfaa
