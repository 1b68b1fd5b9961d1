/- The different numbers of a list in rising order, and the phases of requests: the plain laws. Conditions: none. -/
import Derived.Lib.SlicesCompact
import Derived.Test.YtjblpcgkffhgfaaGreatListP
import Derived.Shelf.Sort.Plain
import Derived.Shelf.Slices.In.SortNone
import Derived.Shelf.Slices.CompactI
import Derived.Deep.OwnRows
import Derived.Test.YtjblpcgkffhgfaaGreatME
import Derived.Shelf.Slices.Delete
import Derived.Lib.SliceRun
import Derived.Test.YtjblpcgkffhgfaaGreatClone0
import Derived.Test.YtjblpcgkffhgfaaGreatIndexI
import Derived.Test.YtjblpcgkffhgfaaGreatGFM
set_option linter.all false
set_option linter.unusedSimpArgs false
set_option linter.unusedVariables false
namespace Go.Proofs.YtjblpcgkffhgfaaGreat

theorem getD_inL {α:Type} {xs:List α} {d:α} {k:Nat} (h:k<xs.length):xs.getD k d=xs[k]:=by simp [h]
def srt (xs:List Int):List Int:=xs.mergeSort fun x y=>decide (x≤y)
theorem srt_len (xs:List Int):(srt xs).length=xs.length:=List.length_mergeSort _
def cpt (xs:List Int):List Int:=Lib.compact xs
theorem cpt_len (xs:List Int):(cpt xs).length≤xs.length:=by
  unfold cpt Lib.compact Lib.compactUpTo
  rw [List.length_map]
  exact Nat.le_trans (List.length_filter_le _ _) (by simp)
/-- the different ones of numbers, in rising order -/
def rs (xs:List Int):List Int:=cpt (srt xs)
theorem srt_mem {x:Int} {xs:List Int}:x∈srt xs↔x∈xs:=List.mem_mergeSort
theorem srt_le (xs:List Int):(srt xs).Pairwise (·≤·):=by
  have h:=List.pairwise_mergeSort (le:=fun x y:Int=>decide (x≤y)) (fun a b c h1 h2=>by simp only [decide_eq_true_eq] at h1 h2 ⊢;omega) (fun a b=>by simp only [Bool.or_eq_true,decide_eq_true_eq];omega) xs
  exact h.imp fun h=>by simpa using h
structure CpI (xs:List Int) (m:Nat):Prop where
  lt:(Lib.compactUpTo xs.toArray m).Pairwise (·<·)
  mem:∀ x,x∈Lib.compactUpTo xs.toArray m↔x∈xs.take m
theorem cp_inv {xs:List Int} (h:xs.Pairwise (·≤·)):∀ m,m≤xs.length→CpI xs m
  | 0,_=>⟨by simp [Lib.compactUpTo],fun x=>by simp [Lib.compactUpTo]⟩
  | m+1,hm=>by
    have ih:=cp_inv h m (by omega)
    have hm':m<xs.length:=by omega
    have hg:xs.toArray[m]! = xs[m]:=by simp [hm']
    have htk:xs.take (m+1)=xs.take m++[xs[m]]:=List.take_succ_eq_append_getElem hm'
    have hle:∀ x∈xs.take m,x≤xs[m]:=fun x hx=>by
      obtain ⟨i,hi,rfl⟩:=List.getElem_of_mem hx
      rw [List.getElem_take]
      simp only [List.length_take] at hi
      exact List.pairwise_iff_getElem.1 h i m (by omega) hm' (by omega)
    cases hk:Lib.keeps xs.toArray m with
    | true =>
      have hs:Lib.compactUpTo xs.toArray (m+1)=Lib.compactUpTo xs.toArray m++[xs[m]]:=by rw [Lib.compactUpTo_succ,hk,hg];rfl
      have hlt:∀ x∈xs.take m,x<xs[m]:=fun x hx=>by
        obtain ⟨i,hi,rfl⟩:=List.getElem_of_mem hx
        rw [List.getElem_take]
        simp only [List.length_take] at hi
        unfold Lib.keeps at hk
        simp only [decide_eq_true_eq] at hk
        have hm0:m≠0:=by omega
        have h1:xs.toArray[m]! ≠ xs.toArray[m-1]! := hk.resolve_left hm0
        have h2:xs.toArray[m-1]! = xs[m-1]'(by omega):=by simp [show m-1<xs.length by omega]
        rw [hg,h2] at h1
        have h3:=List.pairwise_iff_getElem.1 h (m-1) m (by omega) hm' (by omega)
        have h4:xs[i]'(by omega)≤xs[m-1]'(by omega):=by
          rcases Nat.lt_or_ge i (m-1) with h5 | h5
          · exact List.pairwise_iff_getElem.1 h i (m-1) (by omega) (by omega) h5
          · have:i=m-1:=by omega
            subst this
            exact Int.le_refl _
        omega
      refine ⟨?_,fun x => ?_⟩
      · rw [hs,List.pairwise_append]
        refine ⟨ih.lt,List.pairwise_singleton _ _,fun x hx y hy => ?_⟩
        rw [List.mem_singleton] at hy
        subst hy
        exact hlt x ((ih.mem x).1 hx)
      · rw [hs,htk,List.mem_append,List.mem_append,ih.mem]
    | false =>
      have hs:Lib.compactUpTo xs.toArray (m+1)=Lib.compactUpTo xs.toArray m:=by rw [Lib.compactUpTo_succ,hk];simp
      unfold Lib.keeps at hk
      simp only [decide_eq_false_iff_not,not_or] at hk
      have h2:xs.toArray[m-1]! = xs[m-1]'(by omega):=by simp [show m-1<xs.length by omega]
      have h1:xs[m]=xs[m-1]'(by omega):=by
        have:=Classical.not_not.1 hk.2
        rw [hg,h2] at this
        exact this
      refine ⟨by rw [hs];exact ih.lt,fun x => ?_⟩
      rw [hs,htk,List.mem_append,List.mem_singleton,ih.mem]
      refine ⟨.inl,fun h3=>h3.elim id fun h4 => ?_⟩
      have hm1:m-1<(xs.take m).length:=by rw [List.length_take];omega
      have:(xs.take m)[m-1]=xs[m-1]'(by omega):=List.getElem_take
      rw [h4,h1,← this]
      exact List.getElem_mem _
theorem rs_lt (xs:List Int):(rs xs).Pairwise (·<·):=(cp_inv (srt_le xs) (srt xs).length (Nat.le_refl _)).lt
theorem rs_mem {x:Int} {xs:List Int}:x∈rs xs↔x∈xs:=by
  have h:=(cp_inv (srt_le xs) (srt xs).length (Nat.le_refl _)).mem x
  rw [List.take_length] at h
  exact h.trans srt_mem
/-- two strictly rising lists of the same numbers are the same -/
theorem lt_ext:∀ {a b:List Int},a.Pairwise (·<·)→b.Pairwise (·<·)→(∀ x,x∈a↔x∈b)→a=b
  | [],[],_,_,_=>rfl
  | [],y::b,_,_,h=>absurd ((h y).2 (by simp)) (by simp)
  | x::a,[],_,_,h=>absurd ((h x).1 (by simp)) (by simp)
  | x::a,y::b,ha,hb,h=>by
    rw [List.pairwise_cons] at ha hb
    have e:x=y:=by
      have h1:=(h x).1 (by simp)
      have h2:=(h y).2 (by simp)
      rw [List.mem_cons] at h1 h2
      rcases h1 with h1 | h1
      · exact h1
      · rcases h2 with h2 | h2
        · exact h2.symm
        · have:=hb.1 x h1
          have:=ha.1 y h2
          omega
    subst e
    refine congrArg _ (lt_ext ha.2 hb.2 fun z=>⟨fun hz => ?_,fun hz => ?_⟩)
    · have h1:=(h z).1 (by simp [hz])
      rw [List.mem_cons] at h1
      rcases h1 with rfl | h1
      · exact absurd (ha.1 _ hz) (by omega)
      · exact h1
    · have h1:=(h z).2 (by simp [hz])
      rw [List.mem_cons] at h1
      rcases h1 with rfl | h1
      · exact absurd (hb.1 _ hz) (by omega)
      · exact h1
theorem rs_of {a xs:List Int} (h:a.Pairwise (·<·)) (hm:∀ x,x∈a↔x∈xs):rs xs=a:=lt_ext (rs_lt xs) h fun x=>rs_mem.trans (hm x).symm
theorem rs_id {xs:List Int} (h:xs.Pairwise (·<·)):rs xs=xs:=rs_of h fun _=>Iff.rfl
theorem rs_congr {xs ys:List Int} (h:∀ x,x∈xs↔x∈ys):rs xs=rs ys:=rs_of (rs_lt ys) fun x=>rs_mem.trans (h x).symm
theorem rs_len (xs:List Int):(rs xs).length≤xs.length:=Nat.le_trans (cpt_len _) (by rw [srt_len];exact Nat.le_refl _)
/-! ### a number is put to its place -/
/-- the first place whose number is not less -/
def plc (n:Int):List Int→Nat
  | []=>0
  | x::l=>if x<n then plc n l+1 else 0
theorem plc_le (n:Int):∀ l,plc n l≤l.length
  | []=>Nat.le_refl _
  | x::l=>by
    unfold plc
    split
    · have:=plc_le n l;simp;omega
    · exact Nat.zero_le _
theorem plc_lt {n:Int}:∀ {l:List Int} {i:Nat},i<plc n l→l.getD i 0<n
  | [],i,h=>by simp [plc] at h
  | x::l,i,h=>by
    unfold plc at h
    split at h
    · match i with
      | 0=>simpa
      | i+1=>simpa using plc_lt (l:=l) (i:=i) (by omega)
    · omega
theorem plc_ge {n:Int}:∀ {l:List Int},plc n l<l.length→n≤l.getD (plc n l) 0
  | [],h=>by simp at h
  | x::l,h=>by
    unfold plc at h ⊢
    split
    · rename_i h1
      rw [if_pos h1] at h
      simpa using plc_ge (l:=l) (by simpa using h)
    · simp;omega
def putL (l:List Int) (n:Int):List Int:=if plc n l<l.length∧l.getD (plc n l) 0=n then l else l.take (plc n l)++[n]++l.drop (plc n l)
theorem putL_mem {l:List Int} {n x:Int}:x∈putL l n↔x∈l∨x=n:=by
  unfold putL
  split
  · rename_i h
    refine ⟨.inl,fun h1=>h1.elim id fun h2 => ?_⟩
    rw [h2,← h.2,getD_inL h.1]
    exact List.getElem_mem _
  · have e:x∈l↔x∈l.take (plc n l)∨x∈l.drop (plc n l):=by
      rw [← List.mem_append,List.take_append_drop]
    rw [List.mem_append,List.mem_append,List.mem_singleton,e]
    constructor
    · rintro ((h | h) | h)
      · exact .inl (.inl h)
      · exact .inr h
      · exact .inl (.inr h)
    · rintro ((h | h) | h)
      · exact .inl (.inl h)
      · exact .inr h
      · exact .inl (.inr h)
theorem putL_lt {l:List Int} (h:l.Pairwise (·<·)) (n:Int):(putL l n).Pairwise (·<·):=by
  unfold putL
  split
  · exact h
  · rename_i hne
    have h1:∀ x∈l.take (plc n l),x<n:=fun x hx=>by
      obtain ⟨i,hi,rfl⟩:=List.getElem_of_mem hx
      simp only [List.length_take] at hi
      have:=plc_lt (n:=n) (l:=l) (i:=i) (by omega)
      rw [getD_inL (by omega)] at this
      rw [List.getElem_take]
      exact this
    have h2:∀ x∈l.drop (plc n l),n<x:=fun x hx=>by
      obtain ⟨i,hi,rfl⟩:=List.getElem_of_mem hx
      simp only [List.length_drop] at hi
      have h3:=plc_ge (n:=n) (l:=l) (by omega)
      have h4:l.getD (plc n l) 0≠n:=fun e=>hne ⟨by omega,e⟩
      rw [getD_inL (by omega)] at h3 h4
      rw [List.getElem_drop]
      rcases Nat.eq_zero_or_pos i with rfl | hi0
      · simp only [Nat.add_zero]
        omega
      · have:=List.pairwise_iff_getElem.1 h (plc n l) (plc n l+i) (by omega) (by omega) (by omega)
        omega
    rw [List.append_assoc,List.pairwise_append]
    refine ⟨h.sublist (List.take_sublist _ _),?_,fun x hx y hy => ?_⟩
    · rw [List.singleton_append,List.pairwise_cons]
      exact ⟨h2,h.sublist (List.drop_sublist _ _)⟩
    · rw [List.singleton_append,List.mem_cons] at hy
      rcases hy with rfl | hy
      · exact h1 x hx
      · exact Int.lt_trans (h1 x hx) (h2 y hy)
theorem rs_snoc (l:List Int) (x:Int):rs (l++[x])=putL (rs l) x:=rs_of (putL_lt (rs_lt l) x) fun y=>by rw [putL_mem,rs_mem,List.mem_append,List.mem_singleton]
theorem rs_nil:rs []=[]:=rs_id List.Pairwise.nil
theorem rs_one (x:Int):rs [x]=[x]:=rs_id (List.pairwise_singleton _ _)
theorem putL_len (l:List Int) (n:Int):(putL l n).length≤l.length+1:=by
  unfold putL
  have:=plc_le n l
  split
  · omega
  · simp;omega
/-! ### what is not in another list -/
def opn (l before:List Int):List Int:=l.filter fun x => !before.contains x
theorem opn_rs {l:List Int} (h:l.Pairwise (·<·)) (before:List Int):rs (opn l before)=opn l before:=rs_id (h.filter _)
/-! ### phases -/
/-- the numbers from the place l on, ahead of the place h -/
def prt (l h:Nat) (xs:List Int):List Int:=(xs.take h).drop l
/-- the first places of phases among the first i requests; the last one -/
def phL (size:Int) (xs:List Int):Nat→List Nat
  | 0=>[]
  | i+1=>if phL size xs i=[]∨size<((rs (prt ((phL size xs i).getLastD 0) (i+1) xs)).length:Int) then phL size xs i++[i] else phL size xs i
theorem phL_mem {size:Int} {xs:List Int}:∀ i:Nat,∀ x∈phL size xs i,x<i
  | 0,x,h=>by simp [phL] at h
  | i+1,x,h=>by
    have ih:=phL_mem (size:=size) (xs:=xs) i x
    unfold phL at h
    split at h
    · rw [List.mem_append,List.mem_singleton] at h
      rcases h with h | rfl
      · have:=ih h;omega
      · omega
    · have:=ih h;omega
theorem phL_len {size:Int} {xs:List Int}:∀ i,(phL size xs i).length≤i
  | 0=>Nat.le_refl _
  | i+1=>by
    have ih:=phL_len (size:=size) (xs:=xs) i
    unfold phL
    split
    · simp;omega
    · omega
theorem phL_pos {size:Int} {xs:List Int} {i:Nat} (h:0<i):phL size xs i≠[]:=by
  obtain ⟨j,rfl⟩:∃ j,i=j+1:=⟨i-1,by omega⟩
  unfold phL
  split
  · simp
  · rename_i h1
    exact fun h2=>h1 (.inl h2)
theorem phL_lt {size:Int} {xs:List Int}:∀ i:Nat,(phL size xs i).Pairwise (·<·)
  | 0=>List.Pairwise.nil
  | i+1=>by
    have ih:=phL_lt (size:=size) (xs:=xs) i
    unfold phL
    split
    · rw [List.pairwise_append]
      refine ⟨ih,List.pairwise_singleton _ _,fun x hx y hy => ?_⟩
      rw [List.mem_singleton] at hy
      rw [hy]
      exact phL_mem i x hx
    · exact ih
theorem getLastD_le {l:List Nat} {n:Nat} (h:∀ x∈l,x≤n):l.getLastD 0≤n:=by
  cases l with
  | nil=>exact Nat.zero_le _
  | cons x l =>
    have e:(x::l).getLastD 0=(x::l).getLast (by simp):=by rw [List.getLastD_cons,← List.getLast_eq_getLastD]
    rw [e]
    exact h _ (List.getLast_mem _)
/-- the items of the phase that is open behind i requests -/
def itm (size:Int) (xs:List Int) (i:Nat):List Int:=rs (prt ((phL size xs i).getLastD 0) i xs)
theorem prt_next {l h:Nat} {xs:List Int} (hl:l≤h) (hh:h<xs.length):prt l (h+1) xs=prt l h xs++[xs.getD h 0]:=by
  unfold prt
  rw [List.take_succ_eq_append_getElem hh,List.drop_append_of_le_length (by rw [List.length_take];omega),getD_inL hh]
theorem prt_one {h:Nat} {xs:List Int} (hh:h<xs.length):prt h (h+1) xs=[xs.getD h 0]:=by
  rw [prt_next (Nat.le_refl _) hh]
  simp [prt]
theorem itm_put {size:Int} {xs:List Int} {i:Nat} (hi:i<xs.length):putL (itm size xs i) (xs.getD i 0)=rs (prt ((phL size xs i).getLastD 0) (i+1) xs):=by
  unfold itm
  rw [prt_next (getLastD_le fun x hx=>Nat.le_of_lt (phL_mem i x hx)) hi,rs_snoc]
theorem getLastD_snoc (l:List Nat) (x:Nat):(l++[x]).getLastD 0=x:=by simp
/-- how the open phase goes on -/
theorem itm_next {size:Int} {xs:List Int} {i:Nat} (hi:i<xs.length):itm size xs (i+1)=if i=0∨size<((putL (itm size xs i) (xs.getD i 0)).length:Int) then [xs.getD i 0] else putL (itm size xs i) (xs.getD i 0):=by
  have e:(phL size xs i=[]∨size<((rs (prt ((phL size xs i).getLastD 0) (i+1) xs)).length:Int))↔(i=0∨size<((putL (itm size xs i) (xs.getD i 0)).length:Int)):=by
    rw [itm_put hi]
    refine or_congr ⟨fun h => ?_,fun h=>by subst h;rfl⟩ Iff.rfl
    rcases Nat.eq_zero_or_pos i with h0 | h0
    · exact h0
    · exact absurd h (phL_pos h0)
  by_cases h:i=0∨size<((putL (itm size xs i) (xs.getD i 0)).length:Int)
  · rw [if_pos h]
    unfold itm
    rw [show phL size xs (i+1)=phL size xs i++[i] from if_pos (e.2 h),getLastD_snoc,prt_one hi,rs_one]
  · rw [if_neg h]
    unfold itm
    rw [show phL size xs (i+1)=phL size xs i from if_neg fun h1=>h (e.1 h1)]
    exact (itm_put hi).symm
theorem itm_len {size:Int} {xs:List Int} (i:Nat):(itm size xs i).length≤i:=by
  refine Nat.le_trans (rs_len _) ?_
  unfold prt
  rw [List.length_drop,List.length_take]
  omega
end Go.Proofs.YtjblpcgkffhgfaaGreat
/- slices.Sort, Compact and DeleteFunc of numbers: they turn an own row in place. Conditions: those that each names. -/
set_option linter.all false
set_option linter.unusedSimpArgs false
set_option linter.unusedVariables false
namespace Go.Proofs.YtjblpcgkffhgfaaGreat
open Go Go.RowKit Go.Shelf Go.Sort Am

def sortRen:Ren:=⟨fun n=>if n=125 then 170 else if n=128 then 187 else if n=129 then 188 else if n=189 then 144 else if n=215 then 199 else if n=216 then 184 else if n=257 then 169 else if n=294 then 178 else if n=295 then 179 else if n=296 then 180 else if n=297 then 181 else if n=298 then 182 else if n=299 then 183 else if n=300 then 185 else if n=301 then 186 else if n=328 then 194 else if n=329 then 195 else if n=330 then 196 else if n=331 then 197 else if n=332 then 198 else if n=343 then 202 else 0,fun n=>if n=0 then 0 else if n=3 then 3 else if n=4 then 4 else if n=5 then 5 else if n=9 then 9 else if n=28 then 24 else if n=46 then 117 else if n=51 then 128 else if n=53 then 54 else if n=131 then 29 else if n=182 then 140 else if n=183 then 141 else if n=218 then 149 else if n=222 then 153 else if n=228 then 155 else if n=229 then 96 else 0,fun _=>0⟩
theorem sortLays:Lays.n189 Tryz.prog sortRen where
  mixed:=by kernel_rfl
  f125:=by kernel_rfl
  f128:=by kernel_rfl
  f129:=by kernel_rfl
  f189:=by kernel_rfl
  f215:=by kernel_rfl
  f216:=by kernel_rfl
  f257:=by kernel_rfl
  f294:=by kernel_rfl
  f295:=by kernel_rfl
  f296:=by kernel_rfl
  f297:=by kernel_rfl
  f298:=by kernel_rfl
  f299:=by kernel_rfl
  f300:=by kernel_rfl
  f301:=by kernel_rfl
  f328:=by kernel_rfl
  f329:=by kernel_rfl
  f330:=by kernel_rfl
  f331:=by kernel_rfl
  f332:=by kernel_rfl
  f343:=by kernel_rfl
  t0:=by kernel_rfl
  a0:=fun _=>by kernel_rfl
  z0:=fun _=>by kernel_rfl
  v0:=fun _=>by kernel_rfl
  t3:=by kernel_rfl
  a3:=fun _=>by kernel_rfl
  z3:=fun _=>by kernel_rfl
  v3:=fun _=>by kernel_rfl
  t4:=by kernel_rfl
  a4:=fun _=>by kernel_rfl
  z4:=fun _=>by kernel_rfl
  v4:=fun _=>by kernel_rfl
  t5:=by kernel_rfl
  a5:=fun _=>by kernel_rfl
  z5:=fun _=>by kernel_rfl
  v5:=fun _=>by kernel_rfl
  t9:=by kernel_rfl
  a9:=fun _=>by kernel_rfl
  z9:=fun _=>by kernel_rfl
  v9:=fun _=>by kernel_rfl
  t28:=by kernel_rfl
  a28:=fun _=>by kernel_rfl
  z28:=fun _=>by kernel_rfl
  v28:=fun _=>by kernel_rfl
  t46:=by kernel_rfl
  a46:=fun _=>by kernel_rfl
  z46:=fun _=>by kernel_rfl
  v46:=fun _=>by kernel_rfl
  t51:=by kernel_rfl
  a51:=fun _=>by kernel_rfl
  z51:=fun _=>by kernel_rfl
  v51:=fun _=>by kernel_rfl
  t53:=by kernel_rfl
  a53:=fun _=>by kernel_rfl
  z53:=fun _=>by kernel_rfl
  v53:=fun _=>by kernel_rfl
  t131:=by kernel_rfl
  a131:=fun _=>by kernel_rfl
  z131:=fun _=>by kernel_rfl
  v131:=fun _=>by kernel_rfl
  t182:=by kernel_rfl
  a182:=fun _=>by kernel_rfl
  z182:=fun _=>by kernel_rfl
  v182:=fun _=>by kernel_rfl
  t183:=by kernel_rfl
  a183:=fun _=>by kernel_rfl
  z183:=fun _=>by kernel_rfl
  v183:=fun _=>by kernel_rfl
  t218:=by kernel_rfl
  a218:=fun _=>by kernel_rfl
  z218:=fun _=>by kernel_rfl
  v218:=fun _=>by kernel_rfl
  t222:=by kernel_rfl
  a222:=fun _=>by kernel_rfl
  z222:=fun _=>by kernel_rfl
  v222:=fun _=>by kernel_rfl
  t228:=by kernel_rfl
  a228:=fun _=>by kernel_rfl
  z228:=fun _=>by kernel_rfl
  v228:=fun _=>by kernel_rfl
  t229:=by kernel_rfl
  a229:=fun _=>by kernel_rfl
  z229:=fun _=>by kernel_rfl
  v229:=fun _=>by kernel_rfl
def compRen:Ren:=⟨fun n=>if n=20 then 145 else 0,fun n=>if n=0 then 0 else if n=3 then 3 else if n=4 then 4 else if n=22 then 24 else 0,fun _=>0⟩
theorem compLays:Lays2.n20 Tryz.prog compRen where
  mixed:=by kernel_rfl
  f20:=by kernel_rfl
  t0:=by kernel_rfl
  a0:=fun _=>by kernel_rfl
  z0:=fun _=>by kernel_rfl
  v0:=fun _=>by kernel_rfl
  t3:=by kernel_rfl
  a3:=fun _=>by kernel_rfl
  z3:=fun _=>by kernel_rfl
  v3:=fun _=>by kernel_rfl
  t4:=by kernel_rfl
  a4:=fun _=>by kernel_rfl
  z4:=fun _=>by kernel_rfl
  v4:=fun _=>by kernel_rfl
  t22:=by kernel_rfl
  a22:=fun _=>by kernel_rfl
  z22:=fun _=>by kernel_rfl
  v22:=fun _=>by kernel_rfl
  i3:=by kernel_rfl
theorem free_noφ {φ φ':Nat→Value} {M:Am.Mem} {x:AV} {u:Value} (hf:x.free=true) (h:x.rel φ M u):x.rel φ' M u:=AV.rel_imp h fun y hy u hu=>Lf.rel_phi (n:=0) (free_lt hf 0 y hy) (fun i hi=>absurd hi (Nat.not_lt_zero i)) hu
/-- what such a call hands back: the first part of the slice, or nothing -/
def rvT (b:Bool) (u:Value):Value:=bif b then u else .tuple #[]
theorem ints_cells {M:Am.Mem} {xs:List Int} {vs:List Value} (h:(Cn.ints xs).rel M vs):vs=xs.map (Value.int .i64):=by
  have h1:vs.length=xs.length:=by simpa [Cn.len,Cn.w] using h.2.1
  refine List.ext_getElem (by simpa using h1) fun j hj hj2 => ?_
  have hj3:j<xs.length:=by omega
  obtain ⟨u,h2,h3⟩:=h.2.2 j 0 hj3 (by simp [Cn.w])
  have h4:u = .int .i64 (xs.getD j 0):=h3
  simp only [Cn.w,Nat.mul_one,Nat.add_zero] at h2
  rw [List.getElem?_eq_getElem hj] at h2
  rw [Option.some.inj h2,h4]
  simp [hj3]
theorem cells_ints {M:Am.Mem} {xs:List Int}:(Cn.ints xs).rel M (xs.map (Value.int .i64)):=by
  refine ⟨trivial,by simp [Cn.len,Cn.w],fun j o hj ho => ?_⟩
  have hj:j<xs.length:=hj
  have ho:o=0:=by simp only [Cn.w] at ho;omega
  subst ho
  refine ⟨.int .i64 (xs.getD j 0),by simp [Cn.w,hj],rfl⟩
theorem kept_cell {S:Nat→Prop} {w w':World} (h:Kept S w w') {ad:Addr} {v:Value} (hv:w.cell? ad=some v) (hs:¬ S ad.block):w'.cell? ad=some v:=by
  have h1:=h.block _ (block_lt hv) hs
  unfold World.cell? at hv ⊢
  rw [h1]
  exact hv
/-- a call that turns one own row of numbers in place -/
theorem doesH_turn {P:Program} {f e:Nat} {args:List AV} {xs ys:List Int} (b:Bool) (hent:∀ (av:Array Value) (W:World),(callFunc f av).run P W = .ok (.enter f av) W) (hfree:args.all AV.free=true) (hle:ys.length≤xs.length) (hb:b=false→ys.length=xs.length)
    (h0:xs=[]→∀ (M:Am.Mem) (w:World) (us:List Value),(∀ ad v,M ad=some v→w.cell? ad=some v)→ArgsRel M args us→Calls P f (Value.slice none 0 0::us).toArray w fun ex w'=>ex = .returned (rvT b (.slice none 0 0))∧Kept (fun _=>False) w w')
    (h1:∀ (M:Am.Mem) (w:World) (us:List Value),(∀ ad v,M ad=some v→w.cell? ad=some v)→ArgsRel M args us→∀ (g cap:Nat) (cur:Array Value),w.heap[g]? = some (.cells cur e (0,0))→(∀ ad v,M ad=some v→ad.block≠g)→xs.length≤cap→cap≤maxLen→cur.size=cap→cur.toList.take xs.length=xs.map (Value.int .i64) →
      Calls P f (Value.slice (some ⟨g,0,none⟩) xs.length cap::us).toArray w fun ex w'=>ex = .returned (rvT b (.slice (some ⟨g,0,none⟩) ys.length cap))∧Kept (fun k=>k=g) w w'∧∃ cur':Array Value,w'.heap[g]? = some (.cells cur' e (0,0))∧cur'.size=cap∧cur'.toList.take ys.length=ys.map (Value.int .i64)) :
    DoesH P f (.lf (.own 0)::args) (bif b then [] else [true]) [.row e (.ints xs)] (bif b then .lf (.own 0) else .tup []) [.row e (.ints ys)]:=by
  refine ⟨hent,fun φ β M w us hH ha => ?_⟩
  obtain ⟨ha1,ha2⟩:=ha
  obtain ⟨u0,us,rfl⟩:∃ u0 us',us=u0::us':=by
    cases us with
    | nil=>simp at ha1
    | cons a l=>exact ⟨a,l,rfl⟩
  have hu0:u0=φ 0:=ha2 0 (by simp) (by simp)
  subst hu0
  have hA:ArgsRel M args us:=⟨by simpa using ha1,fun j hj hj'=>free_noφ (List.all_eq_true.1 hfree _ (List.getElem_mem hj)) (by have:=ha2 (j+1) (by simpa using hj) (by simpa using hj');simpa using this)⟩
  obtain ⟨vs,hv1,hv2,hv3⟩:=hH.ob 0 _ rfl
  have hvs:=ints_cells hv2
  subst hvs
  obtain ⟨hvl,hv1⟩:=hv1
  rcases hv1 with ⟨hnil,hn0⟩ | ⟨g,cap,cur,e1,-,e2,e3,e4,e5,e6⟩
  · have hx:xs=[]:=List.length_eq_zero_iff.1 hn0
    subst hx
    have hy:ys=[]:=List.length_eq_zero_iff.1 (by simpa using hle)
    subst hy
    rw [hnil]
    refine (h0 rfl M w us hH.mem hA).mono ?_
    rintro ex w' ⟨rfl,hk⟩
    have hbl:=hk.to_below fun _ h=>h
    refine ⟨_,φ,β,M,rfl,Am.Mem.le_refl _,fun ad v h => .inl h,hH.below hbl,?_,?_,Nat.le_refl _,fun _ _=>rfl,fun i g hi hg => .inr ⟨i,hi,hg⟩,⟨hk.os,hk.tape,hk.output,hk.size,fun k h1 _=>hk.block k h1 fun h=>h⟩⟩
    · cases b
      · exact ⟨[],rfl,rfl,fun j h=>absurd h (Nat.not_lt_zero j)⟩
      · exact hnil.symm
    · cases b
      · intro y hy;simp [AV.leaves] at hy
      · intro y hy
        simp [AV.leaves,TV.leaves] at hy
        subst hy
        rfl
  · have hβ:β 0 g:=hv3 g (by rw [e1];rfl)
    have hoff:∀ ad v,M ad=some v→ad.block≠g:=hH.off 0 g (by simp) hβ
    simp only [Cn.len,Cn.w,Nat.mul_one] at e3 e5 e6
    rw [show φ 0 = .slice (some ⟨g,0,none⟩) xs.length cap from e1]
    refine (h1 M w us hH.mem hA g cap cur e2 hoff e3 e4 e5 e6).mono ?_
    rintro ex w' ⟨rfl,hk,cur',k1,k2,k3⟩
    have hgl:=(Array.getElem?_eq_some_iff.1 e2).1
    refine ⟨_,upd φ 0 (.slice (some ⟨g,0,none⟩) ys.length cap),β,M,rfl,Am.Mem.le_refl _,fun ad v h => .inl h,⟨fun a v h=>kept_cell hk (hH.mem a v h) (hoff a v h),fun i o hi => ?_,fun i g' hi hg'=>hH.off i g' hi hg',fun i j g' hi hj=>hH.inj i j g' hi hj,fun i g' hi hg'=>Nat.lt_of_lt_of_le (hH.lt i g' hi hg') hk.size,fun i o hi => ?_⟩,?_,?_,Nat.le_refl _,?_,fun i g' hi hg' => .inr ⟨i,hi,hg'⟩,⟨hk.os,hk.tape,hk.output,hk.size,fun k h1 h2=>hk.block k h1 fun h=>h2 ⟨0,by simp,by rw [h];exact hβ⟩⟩⟩
    · match i,hi with
      | 0,hi =>
        simp at hi
        subst hi
        rw [upd_same]
        exact ⟨ys.map (Value.int .i64),⟨by simp [Cn.len,Cn.w],.inr ⟨g,cap,cur',rfl,Nat.zero_le _,k1,Nat.le_trans hle e3,e4,by simpa [Cn.w] using k2,by simpa [Cn.len,Cn.w] using k3⟩⟩,cells_ints,fun g' hg'=>by simp [blk] at hg';rw [← hg'];exact hβ⟩
      | i+1,hi=>simp at hi
    · match i,hi with
      | 0,hi=>simp at hi;subst hi;trivial
      | i+1,hi=>simp at hi
    · cases b
      · exact ⟨[],rfl,rfl,fun j h=>absurd h (Nat.not_lt_zero j)⟩
      · exact (upd_same _ _ _).symm
    · cases b
      · intro y hy;simp [AV.leaves] at hy
      · intro y hy
        simp [AV.leaves,TV.leaves] at hy
        subst hy
        rfl
    · intro i hi
      cases b
      · match i,hi with
        | 0,_=>rw [upd_same,hb rfl];exact e1.symm
        | i+1,hi=>simp at hi
      · simp at hi
theorem holds_row {w:World} {g e:Nat} {cur:Array Value} {xs:List Int} (hg:w.heap[g]? = some (.cells cur e (0,0))) (ht:cur.toList.take xs.length=xs.map (Value.int .i64)):Holds (Value.int .i64) w g 0 xs.toArray:=fun j hj=>by
  have hj:j<xs.length:=by simpa using hj
  have h1:cur.toList[j]? = some (.int .i64 xs[j]):=by
    have h2:(cur.toList.take xs.length)[j]? = some (.int .i64 xs[j]):=by rw [ht];simp [hj]
    rwa [List.getElem?_take_of_lt hj] at h2
  refine ⟨?_,?_⟩
  · rw [Nat.zero_add,Am.cell_heap hg,h1]
    simp [hj]
  · unfold World.frozen?
    rw [hg]
    simp
/-- a row that was put anew -/
theorem put_row {w w':World} {g e n:Nat} {os:Array Obj} {cur:Array Value} {zs:List Int} (hg:w.heap[g]? = some (.cells cur e (0,0))) (hz:zs.length≤cur.size) (h:w'=grow (putRow (Value.int .i64) (Sort.ahead w n) g 0 zs.toArray) os) :
    Kept (fun k=>k=g) w w'∧∃ cur':Array Value,w'.heap[g]? = some (.cells cur' e (0,0))∧cur'.size=cur.size∧∀ m,m≤zs.length→cur'.toList.take m=(zs.take m).map (Value.int .i64):=by
  have hgl:=(Array.getElem?_eq_some_iff.1 hg).1
  subst h
  have hh:∀ k,k<w.heap.size→(grow (putRow (Value.int .i64) (Sort.ahead w n) g 0 zs.toArray) os).heap[k]? = (w.heap.modify g (onCells (putCells (Value.int .i64) 0 zs.toArray)))[k]? := fun k hk=>by
    rw [heap_grow_old _ _ (by rw [size_putRow];exact hk)]
    rfl
  refine ⟨⟨rfl,rfl,rfl,?_,fun k hk hne => ?_⟩,putCells (Value.int .i64) 0 zs.toArray cur,?_,?_,fun m hm => ?_⟩
  · rw [size_grow,size_putRow]
    show w.heap.size≤w.heap.size+os.size
    omega
  · rw [hh k hk,Array.getElem?_modify,if_neg fun h=>hne h.symm]
  · rw [hh g hgl,Array.getElem?_modify,if_pos rfl,hg]
    rfl
  · simp [putCells]
  · refine List.ext_getElem? fun j => ?_
    by_cases hj:j<m
    · have hjz:j<zs.length:=by omega
      have hjc:j<cur.size:=by omega
      rw [List.getElem?_take_of_lt hj,Array.getElem?_toList,List.getElem?_map,List.getElem?_take_of_lt hj]
      simp [putCells,hjz,hjc]
    · rw [List.getElem?_eq_none (by simp;omega),List.getElem?_eq_none (by simp;omega)]
/-! ### slices.Sort -/
theorem sort_h (xs:List Int) (hn:xs.length≤1048576):DoesH Tryz.prog 144 [.lf (.own 0)] [true] [.row 3 (.ints xs)] (.tup []) [.row 3 (.ints (srt xs))]:=by
  refine doesH_turn (args:=[]) false (fun _ _=>by kernel_rfl) rfl (by rw [srt_len];exact Nat.le_refl _) (fun _=>srt_len xs) (fun hx M w us hm ha => ?_) (fun M w us hm ha g cap cur hg hoff h1 h2 h3 h4 => ?_)
  · subst hx
    obtain rfl:=args_inv0 ha
    refine (Any.slices_Sort_int_none sortLays none 0 w).mono ?_
    rintro ex w' ⟨rfl,rfl⟩
    exact ⟨rfl,Kept.refl _ _⟩
  · obtain rfl:=args_inv0 ha
    have hgl:=(Array.getElem?_eq_some_iff.1 hg).1
    refine (Any.slices_Sort_int sortLays g 0 cap xs w (holds_row hg h4) hgl (by omega)).mono ?_
    rintro ex w' ⟨rfl,n,os,hw⟩
    obtain ⟨k1,cur',k2,k3,k4⟩:=put_row (zs:=srt xs) hg (by rw [srt_len];omega) hw
    refine ⟨rfl,k1,cur',k2,by omega,?_⟩
    rw [k4 _ (Nat.le_refl _),List.take_length]
/-! ### slices.Compact -/
theorem compact_h (xs:List Int) (hn:xs.length≤1048576):DoesH Tryz.prog 145 [.lf (.own 0)] [] [.row 3 (.ints xs)] (.lf (.own 0)) [.row 3 (.ints (cpt xs))]:=by
  refine doesH_turn (args:=[]) true (fun _ _=>by kernel_rfl) rfl (cpt_len xs) (fun h=>by cases h) (fun hx M w us hm ha => ?_) (fun M w us hm ha g cap cur hg hoff h1 h2 h3 h4 => ?_)
  · obtain rfl:=args_inv0 ha
    refine (Any.slices_Compact_int_empty compLays none 0 w).mono ?_
    rintro ex w' ⟨rfl,rfl⟩
    exact ⟨rfl,Kept.refl _ _⟩
  · obtain rfl:=args_inv0 ha
    have hgl:=(Array.getElem?_eq_some_iff.1 hg).1
    refine (Any.slices_Compact_int compLays g 0 cap xs w (holds_row hg h4) (by omega) h1).mono ?_
    rintro ex w' ⟨rfl,q,hw⟩
    have hcl:=cpt_len xs
    have hcl':(Lib.compact xs).length≤xs.length:=hcl
    have hw':w'=grow (putRow (Value.int .i64) (Sort.ahead w q) g 0 (Lib.compact xs++List.replicate (xs.length-(Lib.compact xs).length) 0).toArray) #[]:=by rw [hw,grow_empty]
    obtain ⟨k1,cur',k2,k3,k4⟩:=put_row hg (by simp;omega) hw'
    refine ⟨rfl,k1,cur',k2,by omega,?_⟩
    rw [k4 _ (by simp [cpt])]
    simp [cpt]
/-! ### slices.DeleteFunc -/
theorem OwI.sets {lo hi g cap:Nat}:∀ (vs:List Int) (i:Nat) (w:World) (zs:List Int),OwI w lo hi (.slice (some ⟨g,0,none⟩) zs.length cap) zs→lo≤g→g<hi →
    ∃ zs',zs'.length=zs.length∧zs'.take i=zs.take i∧OwI (w.setCells g i (vs.map (Value.int .i64))) lo hi (.slice (some ⟨g,0,none⟩) zs'.length cap) zs'∧Frm lo hi w (w.setCells g i (vs.map (Value.int .i64)))
  | [],i,w,zs,h,_,_=>⟨zs,rfl,rfl,h,⟨rfl,rfl,rfl,Nat.le_refl _,fun _ _ _=>rfl⟩⟩
  | v::vs,i,w,zs,h,h1,h2=>by
    obtain ⟨k1,k2⟩:=h.set rfl i v
    have e:zs.length=(zs.set i v).length:=by simp
    rw [e] at k1
    obtain ⟨zs',j1,j2,j3,j4⟩:=OwI.sets vs (i+1) _ _ k1 h1 h2
    refine ⟨zs',by rw [j1];simp,?_,j3,⟨j4.os.trans k2.os,j4.tape.trans k2.tape,j4.output.trans k2.output,Nat.le_trans k2.size j4.size,fun k hk hn=>(j4.block k (Nat.lt_of_lt_of_le hk k2.size) hn).trans (k2.block k hk hn)⟩⟩
    have h3:=congrArg (List.take i) j2
    rw [List.take_take,List.take_take,Nat.min_eq_left (by omega)] at h3
    rw [h3,List.take_set_of_le (by omega)]
/-- the row while elements are struck: the first j are looked at -/
structure DelI (p:Int→Bool) (xs zs:List Int) (j i:Nat):Prop where
  len:zs.length=xs.length
  le:i≤j
  low:zs.take i=(xs.take j).filter fun x => !p x
  high:zs.drop j=xs.drop j
  ile:i=((xs.take j).filter fun x => !p x).length
theorem DelI.at_ {p:Int→Bool} {xs zs:List Int} {j i:Nat} (h:DelI p xs zs j i) (hj:j<xs.length):∃ hz:j<zs.length,zs[j]=xs[j]:=by
  have hz:j<zs.length:=by rw [h.len];exact hj
  refine ⟨hz,?_⟩
  have h1:=congrArg (fun l=>l[0]?) h.high
  simp only [List.getElem?_drop,Nat.add_zero] at h1
  rw [List.getElem?_eq_getElem hz,List.getElem?_eq_getElem hj] at h1
  exact Option.some.inj h1
theorem DelI.keep {p:Int→Bool} {xs zs:List Int} {j i:Nat} (h:DelI p xs zs j i) (hj:j<xs.length) (hp:p xs[j]=false):DelI p xs (zs.set i xs[j]) (j+1) (i+1):=by
  have h1:=h.le
  have h2:=h.len
  have e:(xs.take (j+1)).filter (fun x => !p x)=(xs.take j).filter (fun x => !p x)++[xs[j]]:=by rw [List.take_succ_eq_append_getElem hj,List.filter_append];simp [hp]
  refine ⟨by rw [List.length_set];exact h.len,by omega,?_,?_,by rw [e,List.length_append,← h.ile];rfl⟩
  · rw [e,← h.low,List.take_succ_eq_append_getElem (by rw [List.length_set];omega),List.getElem_set_self,List.take_set_of_le (Nat.le_refl _)]
  · rw [List.drop_set_of_lt (by omega),← List.drop_drop,h.high,List.drop_drop]
theorem DelI.skip {p:Int→Bool} {xs zs:List Int} {j i:Nat} (h:DelI p xs zs j i) (hj:j<xs.length) (hp:p xs[j]=true):DelI p xs zs (j+1) i:=by
  have e:(xs.take (j+1)).filter (fun x => !p x)=(xs.take j).filter (fun x => !p x):=by rw [List.take_succ_eq_append_getElem hj,List.filter_append];simp [hp]
  have h1:=h.le
  exact ⟨h.len,by omega,by rw [e];exact h.low,by rw [← List.drop_drop,h.high,List.drop_drop],by rw [e];exact h.ile⟩
end Go.Proofs.YtjblpcgkffhgfaaGreat
/- slices.Delete of one number: it turns an own row in place. Conditions: a place in the row. -/
set_option linter.all false
set_option linter.unusedSimpArgs false
set_option linter.unusedVariables false
namespace Go.Proofs.YtjblpcgkffhgfaaGreat
open Go Go.RowKit Go.Shelf Go.Sort Am

def del1Ren:Ren:=⟨fun n=>if n=23 then 104 else 0,fun n=>if n=0 then 0 else if n=3 then 3 else if n=4 then 4 else if n=22 then 24 else 0,fun _=>0⟩
theorem del1Lays:Lays2.n23 Tryz.prog del1Ren where
  mixed:=by kernel_rfl
  f23:=by kernel_rfl
  t0:=by kernel_rfl
  a0:=fun _=>by kernel_rfl
  z0:=fun _=>by kernel_rfl
  v0:=fun _=>by kernel_rfl
  t3:=by kernel_rfl
  a3:=fun _=>by kernel_rfl
  z3:=fun _=>by kernel_rfl
  v3:=fun _=>by kernel_rfl
  t4:=by kernel_rfl
  a4:=fun _=>by kernel_rfl
  z4:=fun _=>by kernel_rfl
  v4:=fun _=>by kernel_rfl
  t22:=by kernel_rfl
  a22:=fun _=>by kernel_rfl
  z22:=fun _=>by kernel_rfl
  v22:=fun _=>by kernel_rfl
  i3:=by kernel_rfl
theorem delete_h (xs:List Int) (i:Nat) (hi:i<xs.length):DoesH Tryz.prog 104 [.lf (.own 0),.int i,.int ((i:Int)+1)] [] [.row 3 (.ints xs)] (.lf (.own 0)) [.row 3 (.ints (xs.eraseIdx i))]:=by
  have hl:(xs.eraseIdx i).length=xs.length-1:=List.length_eraseIdx_of_lt hi
  refine doesH_turn (args:=[.int i,.int ((i:Int)+1)]) true (fun _ _=>by kernel_rfl) rfl (by omega) (fun h=>by cases h) (fun hx M w us hm ha => ?_) (fun M w us hm ha g cap cur hg hoff h1 h2 h3 h4 => ?_)
  · subst hx
    exact absurd hi (Nat.not_lt_zero _)
  · obtain ⟨u,us',rfl,ha1,ha2⟩:=args_inv ha
    obtain ⟨u2,us2,rfl,ha3,ha4⟩:=args_inv ha2
    obtain rfl:=args_inv0 ha4
    have ha1:u = .int .i64 i:=ha1
    have ha3:u2 = .int .i64 ((i:Int)+1):=ha3
    subst ha1
    subst ha3
    have hmx:maxLen≤9223372036854775807:=by decide
    have e1:xs.length-(i+1-i)=xs.length-1:=by omega
    have e2:xs.take i++xs.drop (i+1)=xs.eraseIdx i:=(List.eraseIdx_eq_take_drop_succ _ _).symm
    have H:=Any.slices_Delete_int del1Lays g 0 cap i (i+1) xs w (holds_row hg h4) h1 (by omega) (by omega) (by omega)
    rw [e1,e2,show (((i+1:Nat)):Int)=(i:Int)+1 by omega] at H
    refine H.mono ?_
    rintro ex w' ⟨rfl,q,hw⟩
    have hw':w'=grow (putRow (Value.int .i64) (Sort.ahead w q) g 0 (xs.eraseIdx i++List.replicate (i+1-i) 0).toArray) #[]:=by rw [hw,grow_empty]
    obtain ⟨k1,cur',k2,k3,k4⟩:=put_row hg (by rw [List.length_append,List.length_replicate,hl,h3];omega) hw'
    refine ⟨by rw [hl];rfl,k1,cur',k2,by omega,?_⟩
    rw [k4 _ (by simp)]
    simp
end Go.Proofs.YtjblpcgkffhgfaaGreat
/- slices.DeleteFunc of numbers: it turns an own row in place. Conditions: a function that hands back a bool for each element and turns nothing that was there. -/
set_option linter.all false
set_option linter.unusedSimpArgs false
set_option linter.unusedVariables false
namespace Go.Proofs.YtjblpcgkffhgfaaGreat
open Go Go.RowKit Am

theorem Frm.then_below {lo hi:Nat} {w w' w'':World} (f:Frm lo hi w w') (h:Below w'.heap.size w' w''):Frm lo hi w w'':=⟨h.os.trans f.os,h.tape.trans f.tape,h.output.trans f.output,Nat.le_trans f.size h.size,fun k hk hn=>(h.block k (Nat.lt_of_lt_of_le hk f.size)).trans (f.block k hk hn)⟩
theorem Frm.then {lo hi:Nat} {w w' w'':World} (f:Frm lo hi w w') (h:Frm lo hi w' w''):Frm lo hi w w'':=⟨h.os.trans f.os,h.tape.trans f.tape,h.output.trans f.output,Nat.le_trans f.size h.size,fun k hk hn=>(h.block k (Nat.lt_of_lt_of_le hk f.size) hn).trans (f.block k hk hn)⟩
set_option maxRecDepth 20000 in
set_option maxHeartbeats 2000000 in
theorem deleteFunc_at (W:World) (g cap:Nat) (xs:List Int) (K:FuncId) (lb:Array Value) (p:Int→Bool) (hn:xs.length≤1048576) (hK:Enters Tryz.prog K) (hO:OwI W g (g+1) (.slice (some ⟨g,0,none⟩) xs.length cap) xs)
    (hf:∀ W',Frm g (g+1) W W'→∀ (j:Nat) (hj:j<xs.length),Calls Tryz.prog K (#[.int .i64 xs[j]]++lb) W' fun e W''=>e = .returned (.bool (p xs[j]))∧Below W'.heap.size W' W'') :
    Calls Tryz.prog 149 #[.slice (some ⟨g,0,none⟩) xs.length cap,.func (.func K) #[] lb] W fun e W'=>∃ zs:List Int,zs.length=xs.length∧zs.take (xs.filter fun x => !p x).length=(xs.filter fun x => !p x)∧e = .returned (.slice (some ⟨g,0,none⟩) (xs.filter fun x => !p x).length cap) ∧
      OwI W' g (g+1) (.slice (some ⟨g,0,none⟩) zs.length cap) zs∧Frm g (g+1) W W':=by
  have hcap:xs.length≤cap∧cap≤maxLen:=by
    obtain ⟨⟨_,h⟩,_⟩:=hO
    rcases h with ⟨h,_⟩ | ⟨g',cap',cur,h1,_,_,h3,h4,_⟩
    · cases h
    · simp only [Value.slice.injEq] at h1
      obtain ⟨_,_,rfl⟩:=h1
      exact ⟨h3,h4⟩
  have hmx:maxLen≤9223372036854775807:=by decide
  have H:=hide (indexFuncI_any W _ xs K lb p hK hO.sl fun W' hb j hj v hv=>by subst hv;exact hf W' (Frm.of_below hb _ _) j hj)
  by_cases hall:∀ x∈xs,p x=false
  · have e1:=idxOf_none hall
    have e2:(xs.filter fun x => !p x)=xs:=List.filter_eq_self.2 fun x hx=>by rw [hall x hx];rfl
    have HO:=hide hO
    have E1:=hide e1
    have E2:=hide e2
    clear hO e1 e2 hall hf
    go_enter Tryz.func149,Tryz.ntmps149
    go_wp2_with ((with_reducible refine H.out.mono ?_);rintro e w2 ⟨rfl,hb2⟩;rw [E1.out];dsimp only)
    go_ret
    rw [E2.out]
    exact ⟨xs,rfl,by rw [List.take_length],rfl,HO.out.below hb2,Frm.of_below hb2 _ _⟩
  · obtain ⟨k0,hk0,hp0,hbf⟩:∃ k,∃ hk:k<xs.length,p xs[k]=true∧∀ x∈xs.take k,p x=false:=by
      cases h:xs.findIdx? p with
      | none =>
        exfalso
        rw [List.findIdx?_eq_none_iff] at h
        exact hall h
      | some k =>
        rw [List.findIdx?_eq_some_iff_getElem] at h
        refine ⟨k,h.1,h.2.1,fun x hx => ?_⟩
        obtain ⟨i,hi,rfl⟩:=List.getElem_of_mem hx
        rw [List.getElem_take]
        have:=h.2.2 i (by simp at hi;omega)
        simpa using this
    have e1:=idxOf_some hk0 hp0 hbf
    have hne:((k0:Int) == -1)=false:=beq_eq_false_iff_ne.2 (by omega)
    have hD:DelI p xs xs (k0+1) k0:=by
      have e:(xs.take (k0+1)).filter (fun x => !p x)=xs.take k0:=by
        rw [List.take_succ_eq_append_getElem hk0,List.filter_append,List.filter_eq_self.2 fun x hx=>by rw [hbf x hx];rfl]
        simp [hp0]
      exact ⟨rfl,by omega,e.symm,rfl,by rw [e,List.length_take];omega⟩
    have HO:=hide hO
    have E1:=hide e1
    have HD:=hide hD
    have HF:=hide hf
    have HE:∀ (av:Array Value) (W:World),(callFunc K av).run Tryz.prog W = .ok (.enter K av) W:=hK
    clear hO e1 hall hf hbf hp0 hD hK
    go_enter Tryz.func149,Tryz.ntmps149
    go_wp2_with ((with_reducible refine H.out.mono ?_);rintro e w2 ⟨rfl,hb2⟩;rw [E1.out];dsimp only)
    go_loopw [5,6] (fun s5 s6 wr=>∃ (i j:Nat) (zs:List Int),s5 = .int .i64 i∧s6 = .int .i64 j∧j≤xs.length∧i<j∧Hid (DelI p xs zs j i)∧OwI wr g (g+1) (.slice (some ⟨g,0,none⟩) xs.length cap) zs∧Frm g (g+1) W wr) (fun _ s6 _=>xs.length-(intOf s6).toNat)
    case atStart=>exact ⟨k0,k0+1,xs,rfl,by go_num,by omega,by omega,HD,HO.out.below hb2,Frm.of_below hb2 _ _⟩
    case round =>
      obtain ⟨i,j,zs,rfl,rfl,hj,hij,hI,hO,hFr⟩:=hrel
      have hlen:xs.length=zs.length:=hI.out.len.symm
      by_cases hlt:j<xs.length
      · obtain ⟨hz,hzj⟩:=hI.out.at_ hlt
        have hc:=hO.cellAt hlen hz
        rw [hzj] at hc
        have hcall:=HF.out wr hFr j hlt
        cases hq:p xs[j] with
        | false =>
          rw [hq] at hcall
          have Q:=hide hq
          have C:=hide hcall
          clear hq hcall
          obtain ⟨old,hold⟩:=hO.some_ hlen (j:=i) (by omega)
          have hOi:=hide hO
          have hFi:=hide hFr
          clear hO hFr
          go_wp2_with ((with_reducible refine C.out.mono ?_);rintro e w3 ⟨rfl,hb3⟩;dsimp only;have hO3:=hOi.out.below hb3;obtain ⟨old3,hold3⟩:=hO3.some_ hlen (j:=i) (by omega);have hfr3:=hO3.free hlen i;have HS3:=hide (hO3.set hlen i xs[j]);have HF3:=hide (hFi.out.then_below hb3);clear hO3 hold)
          go_roundw
          case rel=>exact ⟨i+1,j+1,zs.set i xs[j],by go_num,by go_num,by omega,by omega,hide (hI.out.keep hlt Q.out),HS3.out.1,HF3.out.then HS3.out.2⟩
          case measure=>simp [intOf];omega
        | true =>
          rw [hq] at hcall
          have Q:=hide hq
          have C:=hide hcall
          clear hq hcall
          have hOi:=hide hO
          have hFi:=hide hFr
          clear hO hFr
          go_wp2_with ((with_reducible refine C.out.mono ?_);rintro e w3 ⟨rfl,hb3⟩;dsimp only)
          go_roundw
          case rel=>exact ⟨i,j+1,zs,rfl,by go_num,by omega,by omega,hide (hI.out.skip hlt Q.out),hOi.out.below hb3,hFi.out.then_below hb3⟩
          case measure=>simp [intOf];omega
      · obtain rfl:j=xs.length:=by omega
        have hcl:∀ ty,(Builtin.clear_ #[24] ty #[.slice (some ⟨g,i,none⟩) (xs.length-i) (cap-i)]).run Tryz.prog wr = .ok (.tuple #[]) (wr.setCells g i (List.replicate (xs.length-i) (.int .i64 0))):=fun ty =>
          Lib.run_clear_slice wr 24 3 ty (.int .i64 0) Tryz.underlying24 (fun w=>by kernel_rfl) rfl rfl g i _ _ (by omega) (fun t ht=>by rw [hO.cellAt hlen (j:=i+t) (by omega)];rfl) (fun t ht=>hO.free hlen (i+t))
        have HL:=hide hlen
        have hOi:=hide hO
        have hFi:=hide hFr
        clear hO hFr hlen
        go_wp2
        go_ret
        have hD:=hI.out
        have hl:=HL.out
        obtain ⟨zs',j1,j2,j3,j4⟩:=OwI.sets (List.replicate (xs.length-i) 0) i wr zs (by rw [← hl];exact hOi.out) (Nat.le_refl _) (by omega)
        rw [List.map_replicate] at j3 j4
        have e1:(xs.filter fun x => !p x)=zs.take i:=by rw [hD.low,List.take_length]
        have e2:(xs.filter fun x => !p x).length=i:=by have:=hD.ile;rw [List.take_length] at this;exact this.symm
        exact ⟨zs',by omega,by rw [e2,j2,e1],by rw [e2];rfl,j3,hFi.out.then j4⟩
theorem deleteFunc_nil (W:World) (K:FuncId) (lb:Array Value) (hK:Enters Tryz.prog K):Calls Tryz.prog 149 #[.slice none 0 0,.func (.func K) #[] lb] W fun e W'=>e = .returned (.slice none 0 0)∧Below W.heap.size W W':=by
  have H:=hide (indexFuncI_any W (.slice none 0 0) [] K lb (fun _=>false) hK (OwI.nil_ (lo:=0) (hi:=0)).sl fun W' hb j hj=>absurd hj (Nat.not_lt_zero j))
  have E1:=hide (idxOf_none (p:=fun _:Int=>false) (xs:=[]) (fun x h=>by simp at h))
  go_enter Tryz.func149,Tryz.ntmps149
  go_wp2_with ((with_reducible refine H.out.mono ?_);rintro e w2 ⟨rfl,hb2⟩;rw [E1.out];dsimp only)
  go_ret
  exact ⟨rfl,hb2⟩
theorem deleteFunc_h (xs:List Int) (K:Nat) (caps:List Lf) (p:Int→Bool) (hn:xs.length≤1048576) (hcap:caps.all capOK=true) (hK:∀ j,j<xs.length→Does Tryz.prog K (.int (xs.getD j 0)::caps.map fun y => .tv (.one y)) (.imm (.bool (p (xs.getD j 0))))) (hE:Enters Tryz.prog K) :
    DoesH Tryz.prog 149 [.lf (.own 0),.clo K caps] [] [.row 3 (.ints xs)] (.lf (.own 0)) [.row 3 (.ints (xs.filter fun x => !p x))]:=by
  have key:∀ (M:Am.Mem) (w:World) (us:List Value),(∀ ad v,M ad=some v→w.cell? ad=some v)→ArgsRel M [.clo K caps] us→∃ lb:Array Value,us=[.func (.func K) #[] lb]∧∀ (W':World),(∀ ad v,M ad=some v→W'.cell? ad=some v)→∀ (j:Nat) (hj:j<xs.length),Calls Tryz.prog K (#[.int .i64 xs[j]]++lb) W' fun e W''=>e = .returned (.bool (p xs[j]))∧Below W'.heap.size W' W'':=fun M w us hm ha=>by
    obtain ⟨u,us',rfl,h1,h2⟩:=args_inv ha
    obtain rfl:=args_inv0 h2
    obtain ⟨lb,rfl,hl⟩:=h1
    refine ⟨lb.toArray,rfl,fun W' hm' j hj => ?_⟩
    have h3:=(hK j hj).2 M W' (.int .i64 xs[j]::lb) hm' ⟨by simp [hl.1],fun i hi hi'=>by
      match i with
      | 0=>show _=_;simp [hj]
      | i+1 =>
        have hi2:i<caps.length:=by simpa using hi
        have h9:AV.rel noφ M (AV.tv (TV.one caps[i])) (lb[i]'(by simpa using hi')):=hl.2 i hi2 (by simpa using hi')
        simpa using h9⟩
    rw [show #[Value.int .i64 xs[j]]++lb.toArray=(Value.int .i64 xs[j]::lb).toArray by simp]
    refine h3.mono ?_
    rintro e W2 ⟨u,M2,rfl,_,_,h4,h5⟩
    refine ⟨?_,h5⟩
    have h4:u = .bool (p (xs.getD j 0)):=h4
    rw [h4]
    simp [hj]
  refine doesH_turn (args:=[.clo K caps]) true (fun _ _=>by kernel_rfl) (by simp only [List.all_cons,List.all_nil,clo_free hcap];rfl) (List.length_filter_le _ _) (fun h=>by cases h) (fun hx M w us hm ha => ?_) (fun M w us hm ha g cap cur hg hoff h1 h2 h3 h4 => ?_)
  · subst hx
    obtain ⟨lb,rfl,hf⟩:=key M w us hm ha
    refine (deleteFunc_nil w K lb hE).mono ?_
    rintro e w' ⟨rfl,hb⟩
    exact ⟨rfl,Kept.of_below hb⟩
  · obtain ⟨lb,rfl,hf⟩:=key M w us hm ha
    have hO:OwI w g (g+1) (.slice (some ⟨g,0,none⟩) xs.length cap) xs:=⟨⟨by simp,.inr ⟨g,cap,cur,rfl,Nat.zero_le _,hg,h1,h2,by simpa using h3,by simpa using h4⟩⟩,fun g' hg'=>by simp [Value.ownBlock] at hg';omega⟩
    refine (deleteFunc_at w g cap xs K lb p hn hE hO fun W' hF j hj=>hf W' (fun ad v h => ?_) j hj).mono ?_
    · have h5:=hm ad v h
      have h6:=hoff ad v h
      have h7:=hF.block ad.block (block_lt h5) (by omega)
      unfold World.cell? at h5 ⊢
      rw [h7]
      exact h5
    · rintro e w' ⟨zs,j1,j2,rfl,j3,j4⟩
      obtain ⟨⟨_,k⟩,_⟩:=j3
      rcases k with ⟨k,_⟩ | ⟨g',cap',cur',k1,_,k2,k3,k4,k5,k6⟩
      · cases k
      · simp only [Value.slice.injEq,Option.some.injEq,Addr.mk.injEq] at k1
        obtain ⟨⟨rfl,-,-⟩,-,rfl⟩:=k1
        refine ⟨rfl,⟨j4.os,j4.tape,j4.output,j4.size,fun k h1 h2=>j4.block k h1 (by omega)⟩,cur',k2,by simpa using k5,?_⟩
        have hle:(xs.filter fun x => !p x).length≤zs.length:=by rw [j1];exact List.length_filter_le _ _
        simp only [Nat.mul_one] at k6
        have e:=congrArg (List.take (xs.filter fun x => !p x).length) k6
        rw [List.take_take,Nat.min_eq_left hle,← List.map_take,j2] at e
        exact e
end Go.Proofs.YtjblpcgkffhgfaaGreat
/- Requests: when they are right, their different numbers, and their phases, on the machine: the program's and the reference's. Conditions: those that each names. -/
set_option linter.all false
set_option linter.unusedSimpArgs false
set_option linter.unusedVariables false
namespace Go.Proofs.YtjblpcgkffhgfaaGreat
open Go Go.RowKit Am

def rqB (n:Int) (xs:List Int):Bool:=rng n 1 8 && (decide ((xs.length:Int)≤60) && allIn 0 (n-1) xs)
def szB (n size:Int) (xs:List Int):Bool:=rng size 1 6 && rqB n xs
structure SzOK (n size:Int) (xs:List Int):Prop where
  s1:1≤size
  s2:size≤6
  n1:1≤n
  n2:n≤8
  len:xs.length≤60
  all:∀ x∈xs,0≤x∧x≤n-1
theorem sz_ok {n size:Int} {xs:List Int} (h:szB n size xs=true):SzOK n size xs:=by
  unfold szB rqB rng at h
  simp only [Bool.and_eq_true,decide_eq_true_eq,allIn_iff] at h
  obtain ⟨⟨h1,h2⟩,⟨h3,h4⟩,h5,h6⟩:=h
  exact ⟨h1,h2,h3,h4,by omega,h6⟩
theorem bif_l {a b:Bool} (h:(bif a then b else false)=true):a=true:=by
  cases a
  · cases h
  · rfl
theorem rng_bd {n:Int} (h:rng n 1 8=true) : -9223372036854775807≤n∧n≤9223372036854775807:=by
  unfold rng at h
  have:=of_decide_eq_true h
  omega
theorem isItems_d (n:Int):Does Tryz.prog 122 [.int n] (.imm (.bool (rng n 1 8))):=by
  refine spec_imm Tryz.func122 rfl Tryz.ntmps122 cfOK (fun _ _=>by kernel_rfl) rfl (Nat.le_of_ble_eq_true rfl) ?_
  intro M0 w0
  rw [Tryz.results122]
  refine amGo ?_
  ((try refine Or.inl ?_);refine ⟨_,(within_e _ _ _),.inl rfl,?_⟩;refine amC ?_)
  refine amGo ?_
  (simp only [xe,simprocAttr];refine ⟨_,rfl,rfl,Imp.eq ?_⟩)
  rfl
theorem isSize_d (n:Int):Does Tryz.prog 66 [.int n] (.imm (.bool (rng n 1 6))):=by
  refine spec_imm Tryz.func66 rfl Tryz.ntmps66 cfOK (fun _ _=>by kernel_rfl) rfl (Nat.le_of_ble_eq_true rfl) ?_
  intro M0 w0
  rw [Tryz.results66]
  refine amGo ?_
  ((try refine Or.inl ?_);refine ⟨_,(within_e _ _ _),.inl rfl,?_⟩;refine amC ?_)
  refine amGo ?_
  (simp only [xe,simprocAttr];refine ⟨_,rfl,rfl,Imp.eq ?_⟩)
  rfl
theorem isRequests_d (n:Int) (xs:List Int):Does Tryz.prog 67 [.int n,.sl (.ints xs)] (.imm (.bool (rqB n xs))):=by
  refine spec_imm Tryz.func67 rfl Tryz.ntmps67 cfOK (fun _ _=>by kernel_rfl) rfl (Nat.le_of_ble_eq_true rfl) ?_
  intro M0 w0
  rw [Tryz.results67]
  (refine awp_fits 1 rfl fun hf => ?_;simp only [xp,simprocAttr] at hf;simp only [xf,simprocAttr] at hf)
  refine amGo ?_
  ((try refine Or.inl ?_);refine ⟨_,(isItems_d n),.inl rfl,?_⟩;refine amC ?_)
  refine amGo ?_
  ((try refine Or.inl ?_);refine ⟨_,(fun h=>areBelowB_d n xs (rng_bd (bif_l h))),.inl rfl,?_⟩;refine amC ?_)
  refine amGo ?_
  (simp only [xe,simprocAttr];refine ⟨_,rfl,rfl,Imp.eq ?_⟩)
  show AV.bool _=AV.bool _
  unfold rqB
  cases rng n 1 8<;>cases decide ((xs.length:Int)≤60)<;>rfl
theorem l3Items_d (n:Int):Does Tryz.prog 140 [.int n] (.imm (.bool (rng n 1 8))):=by
  refine spec_imm Tryz.func140 rfl Tryz.ntmps140 cfOK (fun _ _=>by kernel_rfl) rfl (Nat.le_of_ble_eq_true rfl) ?_
  intro M0 w0
  rw [Tryz.results140]
  refine amGo ?_
  ((try refine Or.inl ?_);refine ⟨_,(l1In_e _ _ _),.inl rfl,?_⟩;refine amC ?_)
  refine amGo ?_
  (simp only [xe,simprocAttr];refine ⟨_,rfl,rfl,Imp.eq ?_⟩)
  rfl
theorem l3List_d (n:Int) (xs:List Int) (hn : -9223372036854775807≤n∧n≤9223372036854775807):Does Tryz.prog 141 [.int n,.sl (.ints xs)] (.imm (.bool (allIn 0 (n-1) xs))):=by
  refine spec_imm Tryz.func141 rfl Tryz.ntmps141 cfOK (fun _ _=>by kernel_rfl) rfl (Nat.le_of_ble_eq_true rfl) ?_
  intro M0 w0
  rw [Tryz.results141]
  (refine awp_fits 1 rfl fun hf => ?_;simp only [xp,simprocAttr] at hf;simp only [xf,simprocAttr] at hf)
  refine amGo ?_
  refine awp_rounds (α:=Nat) (fun k=>[(5,true,.int k)]) [0,1] (fun _=>[]) (fun k=>k≤xs.length∧∀ x∈xs.take k,rng x 0 (n-1)=true) (fun k=>xs.length-k) 0 (by ((try simp only [xk]);(repeat (refine leK_cons ?_ ?_;first | (exact amE) | rotate_left));(try exact leK_nil rfl);(all_goals (try (simp only [xr,simprocAttr];try refine int_eq1 ?_))))) ⟨Nat.zero_le _,by simp⟩ fun k hk => ?_
  obtain ⟨hk,hp⟩:=hk
  simp only [xr,simprocAttr]
  refine amGo ?_
  refine awp_cond amQ (fun hc => ?_) (fun hc => ?_)
  · have hk':k<xs.length:=by have:=of_decide_eq_true hc;omega
    refine amGo ?_
    ((try refine Or.inl ?_);refine ⟨_,(l1In_e _ _ _),.inl rfl,?_⟩;refine amC ?_)
    refine amGo ?_
    refine awp_cond amQ (fun hd => ?_) (fun hd => ?_)
    · have hd:rng (xs.getD k 0) 0 (n-1)=false:=by simpa using hd
      refine amGo ?_
      (simp only [xe,simprocAttr];refine ⟨_,rfl,rfl,Imp.eq ?_⟩)
      rw [allIn_no (x:=xs.getD k 0) (by rw [getD_inL hk'];exact List.getElem_mem hk') hd]
    · have hd:rng (xs.getD k 0) 0 (n-1)=true:=by simpa using hd
      refine amGo ?_
      refine ⟨k+1,by omega,fun x hx => ?_,by omega,.inl ?_⟩
      · rw [List.take_succ_eq_append_getElem hk',List.mem_append,List.mem_singleton] at hx
        rcases hx with hx | rfl
        · exact hp x hx
        · rw [← getD_inL (d:=0) hk'];exact hd
      · ((try simp only [xk]);(repeat (refine leK_cons ?_ ?_;first | (exact amE) | rotate_left));(try exact leK_nil rfl);(all_goals (try (simp only [xr,simprocAttr];try refine int_eq1 ?_))))
  · have hk':k=xs.length:=by have:=of_decide_eq_false hc;omega
    subst hk'
    rw [List.take_length] at hp
    refine amGo ?_
    (simp only [xe,simprocAttr];refine ⟨_,rfl,rfl,Imp.eq ?_⟩)
    rw [show allIn 0 (n-1) xs=true from List.all_eq_true.2 hp]
theorem l3Good_d (n:Int) (xs:List Int):Does Tryz.prog 96 [.int n,.sl (.ints xs)] (.imm (.bool (rqB n xs))):=by
  refine spec_imm Tryz.func96 rfl Tryz.ntmps96 cfOK (fun _ _=>by kernel_rfl) rfl (Nat.le_of_ble_eq_true rfl) ?_
  intro M0 w0
  rw [Tryz.results96]
  (refine awp_fits 1 rfl fun hf => ?_;simp only [xp,simprocAttr] at hf;simp only [xf,simprocAttr] at hf)
  refine amGo ?_
  ((try refine Or.inl ?_);refine ⟨_,(l3Items_d n),.inl rfl,?_⟩;refine amC ?_)
  refine amGo ?_
  ((try refine Or.inl ?_);refine ⟨_,(fun h=>l3List_d n xs (rng_bd (bif_l h))),.inl rfl,?_⟩;refine amC ?_)
  refine amGo ?_
  (simp only [xe,simprocAttr];refine ⟨_,rfl,rfl,Imp.eq ?_⟩)
  show AV.bool _=AV.bool _
  unfold rqB
  cases rng n 1 8<;>cases decide ((xs.length:Int)≤60)<;>rfl
theorem l4Sizes_d (p s:Int):Does Tryz.prog 153 [.int p,.int s] (.imm (.bool (rng p 1 7 && rng s 1 6))):=by
  refine spec_imm Tryz.func153 rfl Tryz.ntmps153 cfOK (fun _ _=>by kernel_rfl) rfl (Nat.le_of_ble_eq_true rfl) ?_
  intro M0 w0
  rw [Tryz.results153]
  refine amGo ?_
  ((try refine Or.inl ?_);refine ⟨_,(l1In_e _ _ _),.inl rfl,?_⟩;refine amC ?_)
  refine amGo ?_
  ((try refine Or.inl ?_);refine ⟨_,(fun _=>l1In_e _ _ _),.inl rfl,?_⟩;refine amC ?_)
  refine amGo ?_
  (simp only [xe,simprocAttr];refine ⟨_,rfl,rfl,Imp.eq ?_⟩)
  cases rng p 1 7<;>rfl
theorem l4Asked_d (n p s:Int) (xs:List Int):Does Tryz.prog 119 [.int n,.int p,.int s,.sl (.ints xs)] (.imm (.bool ((rng p 1 7 && rng s 1 6) && rqB n xs))):=by
  refine spec_imm Tryz.func119 rfl Tryz.ntmps119 cfOK (fun _ _=>by kernel_rfl) rfl (Nat.le_of_ble_eq_true rfl) ?_
  intro M0 w0
  rw [Tryz.results119]
  refine amGo ?_
  ((try refine Or.inl ?_);refine ⟨_,(l4Sizes_d p s),.inl rfl,?_⟩;refine amC ?_)
  refine amGo ?_
  ((try refine Or.inl ?_);refine ⟨_,(fun _=>l3Good_d n xs),.inl rfl,?_⟩;refine amC ?_)
  refine amGo ?_
  (simp only [xe,simprocAttr];refine ⟨_,rfl,rfl,Imp.eq ?_⟩)
  cases rng p 1 7<;>cases rng s 1 6<;>rfl
theorem l11Sized_d (n s:Int) (xs:List Int):Does Tryz.prog 64 [.int n,.int s,.sl (.ints xs)] (.imm (.bool (szB n s xs))):=by
  refine spec_imm Tryz.func64 rfl Tryz.ntmps64 cfOK (fun _ _=>by kernel_rfl) rfl (Nat.le_of_ble_eq_true rfl) ?_
  intro M0 w0
  rw [Tryz.results64]
  refine amGo ?_
  ((try refine Or.inl ?_);refine ⟨_,(l4Asked_d n 1 s xs),.inl rfl,?_⟩;refine amC ?_)
  refine amGo ?_
  (simp only [xe,simprocAttr];refine ⟨_,rfl,rfl,Imp.eq ?_⟩)
  rfl
/-! ### whether a number is in a list -/
theorem contains_any (xs:List Int) (x:Int):xs.contains x=xs.any fun y=>decide (x=y):=by
  rw [List.contains_eq_any_beq]
  rfl
theorem contains_d (xs:List Int) (x:Int):Does Tryz.prog 102 [.sl (.ints xs),.int x] (.imm (.bool (xs.contains x))):=by
  refine spec_imm Tryz.func102 rfl Tryz.ntmps102 cfOK (fun _ _=>by kernel_rfl) rfl (Nat.le_of_ble_eq_true rfl) ?_
  intro M0 w0
  rw [Tryz.results102]
  refine amGo ?_
  ((try refine Or.inl ?_);refine ⟨_,(index_d xs x),.inl rfl,?_⟩;refine amC ?_)
  refine amGo ?_
  (simp only [xe,simprocAttr];refine ⟨_,rfl,rfl,Imp.eq ?_⟩)
  rw [idxOf_any,contains_any]
theorem l1Has_d (xs:List Int) (x:Int):Does Tryz.prog 91 [.sl (.ints xs),.int x] (.imm (.bool (xs.contains x))):=by
  refine spec_imm Tryz.func91 rfl Tryz.ntmps91 cfOK (fun _ _=>by kernel_rfl) rfl (Nat.le_of_ble_eq_true rfl) ?_
  intro M0 w0
  rw [Tryz.results91]
  (refine awp_fits 0 rfl fun hf => ?_;simp only [xp,simprocAttr] at hf;simp only [xf,simprocAttr] at hf)
  refine amGo ?_
  refine awp_rounds (α:=Nat) (fun k=>[(5,true,.int k)]) [0,1] (fun _=>[]) (fun k=>k≤xs.length∧∀ y∈xs.take k,x≠y) (fun k=>xs.length-k) 0 (by ((try simp only [xk]);(repeat (refine leK_cons ?_ ?_;first | (exact amE) | rotate_left));(try exact leK_nil rfl);(all_goals (try (simp only [xr,simprocAttr];try refine int_eq1 ?_))))) ⟨Nat.zero_le _,by simp⟩ fun k hk => ?_
  obtain ⟨hk,hp⟩:=hk
  simp only [xr,simprocAttr]
  refine amGo ?_
  refine awp_cond amQ (fun hc => ?_) (fun hc => ?_)
  · have hk':k<xs.length:=by have:=of_decide_eq_true hc;omega
    have hx:xs.getD k 0=xs[k]:=by simp [hk']
    refine amGo ?_
    refine awp_cond amQ (fun hd => ?_) (fun hd => ?_)
    · have hd:=of_decide_eq_true hd
      refine amGo ?_
      (simp only [xe,simprocAttr];refine ⟨_,rfl,rfl,Imp.eq ?_⟩)
      rw [show xs.contains x=true from List.contains_iff_mem.2 (by rw [← hd,hx];exact List.getElem_mem hk')]
    · have hd:=of_decide_eq_false hd
      refine amGo ?_
      refine ⟨k+1,by omega,fun y hy => ?_,by omega,.inl ?_⟩
      · rw [List.take_succ_eq_append_getElem hk',List.mem_append,List.mem_singleton] at hy
        rcases hy with hy | rfl
        · exact hp y hy
        · rw [← hx];exact fun e=>hd e.symm
      · ((try simp only [xk]);(repeat (refine leK_cons ?_ ?_;first | (exact amE) | rotate_left));(try exact leK_nil rfl);(all_goals (try (simp only [xr,simprocAttr];try refine int_eq1 ?_))))
  · have hk':k=xs.length:=by have:=of_decide_eq_false hc;omega
    subst hk'
    rw [List.take_length] at hp
    refine amGo ?_
    (simp only [xe,simprocAttr];refine ⟨_,rfl,rfl,Imp.eq ?_⟩)
    rw [show xs.contains x=false from Bool.eq_false_iff.2 fun h=>hp x (List.contains_iff_mem.1 h) rfl]
/-! ### the different numbers of a list -/
theorem rising_h (xs:List Int) (hn:xs.length≤1048576):DoesH Tryz.prog 105 [.sl (.ints xs)] [] [] (.lf (.own 0)) [.row 3 (.ints (rs xs))]:=by
  have h1:=srt_len xs
  refine spec_hB Tryz.func105 rfl Tryz.ntmps105 cfOK (fun _ _=>by kernel_rfl) rfl rfl rfl ?_
  intro M0 w0 S φ0
  rw [Tryz.results105]
  refine amGo ?_
  (refine .inr (.inl (callW_b (cln_a xs hn) rfl rfl rfl rfl rfl rfl rfl ?_));refine amC ?_)
  refine amGo ?_
  (refine .inr (.inl (callW_a [0] (sort_h xs (by omega)) rfl rfl rfl rfl ⟨rfl,trivial⟩ rfl rfl rfl rfl ?_));refine amC ?_)
  refine amGo ?_
  (refine .inr (.inl (callW_a [0] (compact_h (srt xs) (by omega)) rfl rfl rfl rfl ⟨rfl,trivial⟩ rfl rfl rfl rfl ?_));refine amC ?_)
  refine amGo ?_
  (simp only [ends_normal,ends_ret];refine retH_1 [0] rfl ⟨rfl,trivial⟩ rfl rfl rfl rfl rfl ?_;try rfl)
theorem rising_d (xs:List Int) (hn:xs.length≤1048576):Does Tryz.prog 105 [.sl (.ints xs)] (.imm (.sl (.ints (rs xs)))):=imm_of (rising_h xs hn)
theorem goneBy1_d (before:List Int) (x:Int):Does Tryz.prog 157 [.int x,.lf (.ip [.sl (.ints before)] 0)] (.imm (.bool (before.contains x))):=by
  refine spec_imm Tryz.func157 rfl Tryz.ntmps157 cfOK (fun _ _=>by kernel_rfl) rfl (Nat.le_of_ble_eq_true rfl) ?_
  intro M0 w0
  rw [Tryz.results157]
  refine amGo ?_
  ((try refine Or.inl ?_);refine ⟨_,(contains_d _ _),.inl rfl,?_⟩;refine amC ?_)
  refine amGo ?_
  (simp only [xe,simprocAttr];refine ⟨_,rfl,rfl,Imp.eq ?_⟩)
  rfl
end Go.Proofs.YtjblpcgkffhgfaaGreat
