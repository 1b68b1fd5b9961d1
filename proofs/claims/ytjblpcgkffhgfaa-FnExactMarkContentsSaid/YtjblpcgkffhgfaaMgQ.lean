/- Random marking: what the program and the reference take for marked: the plain laws. Conditions: those that each names. -/
import Derived.Test.YtjblpcgkffhgfaaMgP
set_option linter.all false
set_option linter.unusedSimpArgs false
set_option linter.unusedVariables false
namespace Go.Proofs.Ytjblpcgkffhgfaa

theorem parts_congr {size:Nat} {item:Int} {m m':List Int} {p:List Int×Nat} (h:item ∉ p.1→opn p.1 m=opn p.1 m'):partsH size item m p=partsH size item m' p:=by
  unfold partsH
  split
  · rfl
  · rename_i hi
    rw [h hi]
theorem all_congr {size:Nat} {item:Int} {m m':List Int}:∀ {h:HL},(∀ p∈h,item ∉ p.1→opn p.1 m=opn p.1 m')→allH size item m h=allH size item m' h
  | [],_=>rfl
  | p::h,hp=>by
    show partsH size item m p++allH size item m h=partsH size item m' p++allH size item m' h
    rw [parts_congr (hp p (by simp)),all_congr fun q hq=>hp q (by simp [hq])]
theorem step_congr {size:Nat} {item:Int} {m m':List Int} {h:HL} (hp:∀ p∈h,item ∉ p.1→opn p.1 m=opn p.1 m'):stepH size item m h=stepH size item m' h:=by
  unfold stepH
  rw [all_congr hp]
theorem RqOK.congr {size:Nat} {item:Int} {m m':List Int} {h:HL} (H:RqOK size item m h) (hp:∀ p∈h,item ∉ p.1→opn p.1 m=opn p.1 m'):RqOK size item m' h :=
  ⟨H.s6,H.ord,H.len,H.el,H.sum,fun p h1 h2 h3=>by rw [← hp p h1 h2];exact H.dv p h1 h2 h3,by rw [← all_congr hp];exact H.pos,by rw [← all_congr hp];exact H.all⟩
theorem mg_cases {size:Nat} {xs:List Int} (h1:1≤size) (h2:size≤6) {i:Nat} (hi:i<xs.length):(xs.getD i 0∈itm size xs i∧mkB size xs i=itm size xs i∧MgI size (itm size xs i) (hR size xs i))∨(xs.getD i 0 ∉ itm size xs i∧xs.getD i 0 ∉ mkB size xs i∧(mkB size xs i).length<size∧MgI size (mkB size xs i) (hR size xs i)∧((itm size xs i).length=size∧mkB size xs i=[]∨(itm size xs i).length<size∧mkB size xs i=itm size xs i)):=by
  have ih:=mg_inv (size:=size) (xs:=xs) h1 h2 i (by omega)
  by_cases hin:xs.getD i 0∈itm size xs i
  · have e1:=putL_in ih.lt hin
    have hne:¬ (i=0∨(size:Int)<((putL (itm size xs i) (xs.getD i 0)).length:Int)):=by
      rw [e1]
      rintro (rfl | h)
      · rw [itm_zero] at hin;simp at hin
      · have:=ih.le;omega
    exact .inl ⟨hin,if_neg hne,ih⟩
  · have e1:=putL_new hin
    rcases Nat.lt_or_ge (itm size xs i).length size with hlt | hge
    · have e2:mkB size xs i=itm size xs i:=by
        unfold mkB
        split
        · rename_i h
          rcases h with rfl | h
          · rw [itm_zero]
          · rw [e1] at h;omega
        · rfl
      exact .inr ⟨hin,by rw [e2];exact hin,by rw [e2];exact hlt,by rw [e2];exact ih,.inr ⟨hlt,e2⟩⟩
    · have hf:(itm size xs i).length=size:=by have:=ih.le;omega
      have e2:mkB size xs i=[]:=if_pos (.inr (by rw [e1];omega))
      exact .inr ⟨hin,by rw [e2];simp,by rw [e2];simp;omega,by rw [e2];exact ih.reset hf,.inl ⟨hf,e2⟩⟩
/-- the next request may be made -/
theorem rq_ok {size:Nat} {xs:List Int} (h1:1≤size) (h2:size≤6) {i:Nat} (hi:i<xs.length):RqOK size (xs.getD i 0) (mkB size xs i) (hR size xs i):=by
  have H:∃ M,MgI size M (hR size xs i):=⟨_,mg_inv h1 h2 i (by omega)⟩
  obtain ⟨M',H'⟩:=H
  have hel:∀ p∈hR size xs i,p.1.length≤6∧p.1.Pairwise (·<·):=fun p hp=>⟨Nat.le_trans (H'.ok.all p hp).le h2,(H'.ok.all p hp).lt⟩
  rcases mg_cases h1 h2 hi with ⟨hin,e,H⟩ | ⟨-,hni,hlt,H,-⟩
  · have hall:∀ p∈hR size xs i,xs.getD i 0∈p.1:=fun p hp=>(H.ok.all p hp).sub _ hin
    have e2:allH size (xs.getD i 0) (mkB size xs i) (hR size xs i)=hR size xs i:=by
      have:∀ l:HL,(∀ p∈l,xs.getD i 0∈p.1)→allH size (xs.getD i 0) (mkB size xs i) l=l:=fun l=>by
        induction l with
        | nil=>intro _;rfl
        | cons p l ih =>
          intro hl
          show partsH size (xs.getD i 0) (mkB size xs i) p++allH size (xs.getD i 0) (mkB size xs i) l=_
          rw [ih fun q hq=>hl q (by simp [hq])]
          unfold partsH
          rw [if_pos (hl p (by simp))]
          rfl
      exact this _ hall
    exact ⟨h2,H.ok.ord,H.len,hel,Nat.le_of_eq H.sum,fun p hp hn=>absurd (hall p hp) hn,by rw [e2];exact fun q hq=>(H.ok.all q hq).pos,by rw [e2];exact Nat.le_of_eq H.sum⟩
  · rcases H.full with hf | hf
    · have hpn:=fun p hp=>parts_new h1 h2 H.lt hni hlt (H.ok.all p hp) (hf p hp)
      refine ⟨h2,H.ok.ord,H.len,hel,Nat.le_of_eq H.sum,fun p hp hn _ => ?_,fun q hq => ?_,?_⟩
      · have h3:=H.ok.all p hp
        have h4:=opn_len h3.lt H.lt h3.sub
        have h5:=hf p hp
        have h6:=ffl_div (N:=p.2) h1 h2 hlt h3.dv
        have e:(opn p.1 (mkB size xs i)).length=size-(mkB size xs i).length:=by omega
        rw [e]
        exact ⟨by omega,h6.1⟩
      · obtain ⟨p,hp,hq⟩:=all_mem hq
        exact ((hpn p hp).1 q hq).1.pos
      · rw [all_sum fun p hp=>(hpn p hp).2]
        exact Nat.le_of_eq H.sum
    · have e2:allH size (xs.getD i 0) (mkB size xs i) (hR size xs i)=[(putL (mkB size xs i) (xs.getD i 0),720)]:=by
        conv=>lhs;rw [hf]
        unfold allH
        rw [List.flatMap_cons,List.flatMap_nil,List.append_nil]
        unfold partsH
        rw [if_neg hni,if_pos hlt]
      refine ⟨h2,H.ok.ord,H.len,hel,Nat.le_of_eq H.sum,fun p hp hn hl => ?_,fun q hq => ?_,?_⟩
      · rw [hf,List.mem_singleton] at hp
        subst hp
        exact absurd hlt hl
      · rw [e2,List.mem_singleton] at hq
        subst hq
        simp
      · rw [e2]
        simp [sumH]
/-! ### the program's list of the marked -/
def mkR (size:Int) (M:List Int) (item:Int):List Int:=if M.contains item=true then M else (if (M.length:Int)=size then [] else M)++[item]
def mkM (size:Nat) (xs:List Int):Nat→List Int
  | 0=>[]
  | k+1=>mkR size (mkM size xs k) (xs.getD k 0)
theorem mkM_inv {size:Nat} {xs:List Int} (h1:1≤size) (h2:size≤6):∀ k,k≤xs.length→(∀ y,y∈mkM size xs k↔y∈itm size xs k)∧(mkM size xs k).length=(itm size xs k).length
  | 0,_=>by rw [itm_zero];exact ⟨fun y=>Iff.rfl,rfl⟩
  | k+1,hk=>by
    obtain ⟨i1,i2⟩:=mkM_inv (size:=size) (xs:=xs) h1 h2 k (by omega)
    rw [itm_mkB (by omega)]
    show (∀ y,y∈mkR size (mkM size xs k) (xs.getD k 0)↔_)∧(mkR size (mkM size xs k) (xs.getD k 0)).length=_
    unfold mkR
    rcases mg_cases h1 h2 (show k<xs.length by omega) with ⟨hin,e,H⟩ | ⟨hni,hnb,hlt,H,hc⟩
    · rw [if_pos (by simpa using (i1 _).2 hin),e,putL_in H.lt hin]
      exact ⟨i1,i2⟩
    · have hnc:¬ (mkM size xs k).contains (xs.getD k 0)=true:=fun h=>hni ((i1 _).1 (by simpa using h))
      rw [if_neg hnc,putL_new hnb]
      rcases hc with ⟨hf,e⟩ | ⟨hf,e⟩
      · rw [if_pos (by omega),e]
        exact ⟨fun y=>by rw [putL_mem];simp,by simp⟩
      · rw [if_neg (by omega),e]
        refine ⟨fun y => ?_,by simp [i2]⟩
        rw [putL_mem,List.mem_append,List.mem_singleton,i1]
theorem mkM_len {size:Nat} {xs:List Int} (h1:1≤size) (h2:size≤6) {k:Nat} (hk:k≤xs.length):(mkM size xs k).length≤6:=by
  rw [(mkM_inv h1 h2 k hk).2]
  have:=(mg_inv h1 h2 k hk).le
  omega
/-- where the item is not held, the program's marked items are the phase's -/
theorem mkM_opn {size:Nat} {xs:List Int} (h1:1≤size) (h2:size≤6) {k:Nat} (hk:k<xs.length):∀ p∈hR size xs k,xs.getD k 0 ∉ p.1→opn p.1 (mkB size xs k)=opn p.1 (mkR size (mkM size xs k) (xs.getD k 0)):=fun p hp hn=>by
  have hm:=(mkM_inv (size:=size) (xs:=xs) h1 h2 (k+1) (by omega)).1
  rw [itm_mkB hk] at hm
  refine opn_congr fun y hy => ?_
  have h3:=hm y
  rw [putL_mem] at h3
  have h4:y∈mkR size (mkM size xs k) (xs.getD k 0)↔y∈mkB size xs k∨y=xs.getD k 0:=h3
  rw [h4]
  exact ⟨.inl,fun h=>h.elim id fun e=>by rw [e] at hy;exact absurd hy hn⟩
theorem mkM_ok {size:Nat} {xs:List Int} (h1:1≤size) (h2:size≤6) {k:Nat} (hk:k<xs.length):RqOK size (xs.getD k 0) (mkR size (mkM size xs k) (xs.getD k 0)) (hR size xs k):=(rq_ok h1 h2 hk).congr (mkM_opn h1 h2 hk)
theorem mkM_step {size:Nat} {xs:List Int} (h1:1≤size) (h2:size≤6) {k:Nat} (hk:k<xs.length):stepH size (xs.getD k 0) (mkR size (mkM size xs k) (xs.getD k 0)) (hR size xs k)=hR size xs (k+1):=(step_congr (mkM_opn h1 h2 hk)).symm
/-! ### the reference's -/
/-- the requests of the phase ahead of the i-th one -/
def prM (size:Int) (xs:List Int) (i:Nat):List Int:=prt ((phL size xs (i+1)).getLastD 0) i xs
theorem prM_mem {size:Nat} {xs:List Int} {i:Nat} (hi:i<xs.length) (y:Int):y∈prM size xs i↔y∈mkB size xs i:=by
  have e:(phL size xs i=[]∨(size:Int)<((rs (prt ((phL size xs i).getLastD 0) (i+1) xs)).length:Int))↔(i=0∨(size:Int)<((putL (itm size xs i) (xs.getD i 0)).length:Int)):=by
    rw [itm_put hi]
    refine or_congr ⟨fun h => ?_,fun h=>by subst h;rfl⟩ Iff.rfl
    rcases Nat.eq_zero_or_pos i with h0 | h0
    · exact h0
    · exact absurd h (phL_pos h0)
  unfold prM mkB
  by_cases h:i=0∨(size:Int)<((putL (itm size xs i) (xs.getD i 0)).length:Int)
  · rw [if_pos h,show phL size xs (i+1)=phL size xs i++[i] from if_pos (e.2 h),getLastD_snoc]
    simp [prt]
  · rw [if_neg h,show phL size xs (i+1)=phL size xs i from if_neg fun h1=>h (e.1 h1)]
    exact rs_mem.symm
theorem prM_opn {size:Nat} {xs:List Int} {i:Nat} (hi:i<xs.length) (p:List Int):opn p (mkB size xs i)=opn p (prM size xs i):=opn_congr fun y _=>(prM_mem hi y).symm
theorem prM_ok {size:Nat} {xs:List Int} (h1:1≤size) (h2:size≤6) {k:Nat} (hk:k<xs.length):RqOK size (xs.getD k 0) (prM size xs k) (hR size xs k):=(rq_ok h1 h2 hk).congr fun p _ _=>prM_opn hk p.1
theorem prM_step {size:Nat} {xs:List Int} {k:Nat} (hk:k<xs.length):stepH size (xs.getD k 0) (prM size xs k) (hR size xs k)=hR size xs (k+1):=(step_congr fun p _ _=>prM_opn hk p.1).symm
end Go.Proofs.Ytjblpcgkffhgfaa
