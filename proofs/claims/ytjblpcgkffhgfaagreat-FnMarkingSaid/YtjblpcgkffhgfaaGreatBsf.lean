/- slices.Compare of numbers and slices.BinarySearchFunc of lists in order, on the machine. Conditions: those that each names. -/
import Derived.Test.YtjblpcgkffhgfaaGreatGMP
import Derived.Test.YtjblpcgkffhgfaaGreatGBA
import Derived.Test.YtjblpcgkffhgfaaGreatME
set_option linter.all false
set_option linter.unusedSimpArgs false
set_option linter.unusedVariables false
namespace Go.Proofs.YtjblpcgkffhgfaaGreat
open Go Go.RowKit Am

theorem isNaN_d (a:Int):Does Tryz.prog 199 [.int a] (.imm (.bool false)):=by
  refine spec_imm Tryz.func199 rfl Tryz.ntmps199 cfOK (fun _ _=>by kernel_rfl) rfl (Nat.le_of_ble_eq_true rfl) ?_
  intro M0 w0
  rw [Tryz.results199]
  refine amGo ?_
  (simp only [xe,simprocAttr];refine ⟨_,rfl,rfl,Imp.eq ?_⟩)
  simp
theorem cmpInt_d (a b:Int):Does Tryz.prog 189 [.int a,.int b] (.imm (.int (if a<b then -1 else if a=b then 0 else 1))):=by
  refine spec_imm Tryz.func189 rfl Tryz.ntmps189 cfOK (fun _ _=>by kernel_rfl) rfl (Nat.le_of_ble_eq_true rfl) ?_
  intro M0 w0
  rw [Tryz.results189]
  refine amGo ?_
  ((try refine Or.inl ?_);refine ⟨_,(isNaN_d a),.inl rfl,?_⟩;refine amC ?_)
  refine amGo ?_
  ((try refine Or.inl ?_);refine ⟨_,(isNaN_d b),.inl rfl,?_⟩;refine amC ?_)
  refine amGo ?_
  refine awp_cond amQ (fun h1 => ?_) (fun h1 => ?_)
  · cases h1
  refine amGo ?_
  refine awp_cond amQ (fun h2 => ?_) (fun h2 => ?_)
  · cases h2
  refine amGo ?_
  refine awp_cond amQ (fun h3 => ?_) (fun h3 => ?_)
  · have h3:=of_decide_eq_true h3
    refine amGo ?_
    (simp only [xe,simprocAttr];refine ⟨_,rfl,rfl,Imp.eq ?_⟩)
    rw [if_pos h3]
  · have h3:=of_decide_eq_false h3
    refine amGo ?_
    refine awp_cond amQ (fun h4 => ?_) (fun h4 => ?_)
    · have h4:=of_decide_eq_true h4
      refine amGo ?_
      (simp only [xe,simprocAttr];refine ⟨_,rfl,rfl,Imp.eq ?_⟩)
      rw [if_neg h3,if_neg (by omega)]
    · have h4:=of_decide_eq_false h4
      refine amGo ?_
      (simp only [xe,simprocAttr];refine ⟨_,rfl,rfl,Imp.eq ?_⟩)
      rw [if_neg h3,if_pos (by omega)]
theorem drop_getD {l:List Int} {k:Nat} (h:k<l.length):l.drop k=l.getD k 0::l.drop (k+1):=by
  rw [getD_inL h]
  exact List.drop_eq_getElem_cons h
theorem compare_d (x y:List Int):Does Tryz.prog 173 [.sl (.ints x),.sl (.ints y)] (.imm (.int (cmpL x y))):=by
  refine spec_imm Tryz.func173 rfl Tryz.ntmps173 cfOK (fun _ _=>by kernel_rfl) rfl (Nat.le_of_ble_eq_true rfl) ?_
  intro M0 w0
  rw [Tryz.results173]
  (refine awp_fits 0 rfl fun hf => ?_;simp only [xp,simprocAttr] at hf;simp only [xf,simprocAttr] at hf)
  (refine awp_fits 1 rfl fun hf2 => ?_;simp only [xp,simprocAttr] at hf2;simp only [xf,simprocAttr] at hf2)
  refine amGo ?_
  refine awp_rounds (α:=Nat) (fun k=>[(11,true,.int k)]) [0,1,9,10] (fun _=>[]) (fun k=>k≤x.length∧k≤y.length∧∀ j,j<k→x.getD j 0=y.getD j 0) (fun k=>x.length-k) 0 (by ((try simp only [xk]);(repeat (refine leK_cons ?_ ?_;first | (exact amE) | rotate_left));(try exact leK_nil rfl);(all_goals (try (simp only [xr,simprocAttr];try refine int_eq1 ?_))))) ⟨Nat.zero_le _,Nat.zero_le _,fun j hj=>absurd hj (Nat.not_lt_zero _)⟩ fun k hk => ?_
  obtain ⟨hk1,hk2,hk3⟩:=hk
  have hL:=lexB_at x y k hk1 hk2 hk3
  have hE:x=y→x.drop k=y.drop k:=fun e=>by rw [e]
  have hE2:x.drop k=y.drop k→x=y:=fun e=>by
    have h1:x.take k=y.take k:=List.ext_getElem (by rw [List.length_take,List.length_take];omega) fun j h1 h2=>by
      rw [List.length_take] at h1 h2
      have:=hk3 j (by omega)
      rw [getD_inL (by omega),getD_inL (by omega)] at this
      rw [List.getElem_take,List.getElem_take,this]
    rw [← List.take_append_drop k x,← List.take_append_drop k y,h1,e]
  simp only [xr,simprocAttr]
  refine amGo ?_
  refine awp_cond amQ (fun hc => ?_) (fun hc => ?_)
  · have hc:=of_decide_eq_true hc
    have hx:k<x.length:=by omega
    have hdx:=drop_getD hx
    refine amGo ?_
    refine awp_cond amQ (fun hd => ?_) (fun hd => ?_)
    · have hd:=of_decide_eq_true hd
      have hy:y.drop k=[]:=List.drop_eq_nil_of_le (by omega)
      refine amGo ?_
      (simp only [xe,simprocAttr];refine ⟨_,rfl,rfl,Imp.eq ?_⟩)
      unfold cmpL
      rw [hL,hdx,hy,if_neg (by simp [lexB]),if_neg (fun e=>by have:=hE e;rw [hdx,hy] at this;cases this)]
    · have hd:=of_decide_eq_false hd
      have hy:k<y.length:=by omega
      have hdy:=drop_getD hy
      refine amGo ?_
      ((try refine Or.inl ?_);refine ⟨_,(cmpInt_d (x.getD k 0) (y.getD k 0)),.inl rfl,?_⟩;refine amC ?_)
      refine amGo ?_
      refine awp_cond amQ (fun he => ?_) (fun he => ?_)
      · have he:(if x.getD k 0<y.getD k 0 then (-1:Int) else if x.getD k 0=y.getD k 0 then 0 else 1)≠0:=by simpa using he
        refine amGo ?_
        (simp only [xe,simprocAttr];refine ⟨_,rfl,rfl,Imp.eq ?_⟩)
        unfold cmpL
        rw [hL,hdx,hdy]
        unfold lexB
        by_cases h1:x.getD k 0=y.getD k 0
        · rw [if_neg (by omega),if_pos h1] at he
          exact absurd rfl he
        · by_cases h2:x.getD k 0<y.getD k 0
          · simp only [h1,h2,decide_true,if_true,if_false]
          · have h3:¬ x=y:=fun e=>h1 (by rw [e])
            simp only [h1,h2,h3,decide_false,if_false,Bool.false_eq_true]
      · have he:(if x.getD k 0<y.getD k 0 then (-1:Int) else if x.getD k 0=y.getD k 0 then 0 else 1)=0:=by simpa using he
        have h1:x.getD k 0=y.getD k 0:=by
          by_cases h1:x.getD k 0<y.getD k 0
          · rw [if_pos h1] at he;omega
          · rw [if_neg h1] at he
            by_cases h2:x.getD k 0=y.getD k 0
            · exact h2
            · rw [if_neg h2] at he;omega
        refine amGo ?_
        refine ⟨k+1,by omega,by omega,fun j hj => ?_,by omega,.inl ?_⟩
        · rcases Nat.lt_or_ge j k with h2 | h2
          · exact hk3 j h2
          · obtain rfl:j=k:=by omega
            exact h1
        · ((try simp only [xk]);(repeat (refine leK_cons ?_ ?_;first | (exact amE) | rotate_left));(try exact leK_nil rfl);(all_goals (try (simp only [xr,simprocAttr];try refine int_eq1 ?_))))
  · have hc:=of_decide_eq_false hc
    obtain rfl:k=x.length:=by omega
    have hdx:x.drop x.length=[]:=List.drop_length
    refine amGo ?_
    refine awp_cond amQ (fun hd => ?_) (fun hd => ?_)
    · have hd:=of_decide_eq_true hd
      have hdy:=drop_getD (l:=y) (k:=x.length) (by omega)
      refine amGo ?_
      (simp only [xe,simprocAttr];refine ⟨_,rfl,rfl,Imp.eq ?_⟩)
      unfold cmpL
      rw [hL,hdx,hdy]
      rfl
    · have hd:=of_decide_eq_false hd
      have hdy:y.drop x.length=[]:=List.drop_eq_nil_of_le (by omega)
      refine amGo ?_
      (simp only [xe,simprocAttr];refine ⟨_,rfl,rfl,Imp.eq ?_⟩)
      unfold cmpL
      rw [hL,hdx,hdy,if_neg (by simp [lexB]),if_pos (hE2 (by rw [hdx,hdy]))]
def atK (l:List (List Int)) (x:List Int):Nat:=atH (l.map fun y=>(y,0)) x
theorem atK_of {l:List (List Int)} {x:List Int} {k:Nat} (hk:k≤l.length) (h1:∀ i (h:i<l.length),i<k→lexB l[i] x=true) (h2:∀ h:k<l.length,lexB l[k] x=false):atK l x=k:=by
  refine atH_of (by rwa [List.length_map]) (fun i hi => ?_) fun h => ?_
  · rw [getD_inL (by rw [List.length_map];omega),List.getElem_map]
    exact h1 i (by omega) hi
  · rw [getD_inL h,List.getElem_map]
    exact h2 _
theorem atK_keys:∀ (h:HL) (x:List Int),atK (h.map (·.1)) x=atH h x
  | [],x=>rfl
  | p::h,x=>by
    have ih:=atK_keys h x
    unfold atK at ih ⊢
    simp only [List.map_cons]
    unfold atH
    rw [ih]
set_option maxHeartbeats 1000000 in
theorem bsearch_any (w:World) (u v:Value) (l:List (List Int)) (x:List Int) (K:FuncId) (hK:Enters Tryz.prog K) (hx:SlII w u l) (hl:l.length≤1000000)
    (hf:∀ W,Below w.heap.size w W→∀ (j:Nat) (hj:j<l.length) (v':Value),SlI w v' l[j]→Calls Tryz.prog K #[v',v] W fun e W'=>e = .returned (.int .i64 (cmpL l[j] x))∧Below W.heap.size W W')
    (hs:∀ a b,a≤b→∀ (ha:a<l.length) (hb:b<l.length),lexB l[b] x=true→lexB l[a] x=true) :
    Calls Tryz.prog 171 #[u,v,.func (.func K) #[] #[]] w fun e w'=>e = .returned (.tuple #[.int .i64 (atK l x),.bool (decide (atK l x<l.length∧l.getD (atK l x) []=x))])∧Below w.heap.size w w':=by
  obtain ⟨A,c,rfl,hc1,hc2,hcell⟩:=SlO.view hx
  have HK:=hide hK
  have HF:=hide hf
  have HS:=hide hs
  have HC:=hide hcell
  have HE:∀ (av:Array Value) (W:World),(callFunc K av).run Tryz.prog W = .ok (.enter K av) W:=HK.out
  clear hK hf hx hs hcell
  have hneg:∀ j (hj:j<l.length),(cmpL l[j] x<0)↔lexB l[j] x=true:=fun j hj=>by
    unfold cmpL
    cases lexB l[j] x
    · rw [if_neg (by decide)]
      split<;>simp
    · simp
  have HN:=hide hneg
  clear hneg
  go_enter Tryz.func171,Tryz.ntmps171
  go_wp2
  go_loopw [9,10] (fun s9 s10 wr=>∃ lo hi:Nat,s9 = .int .i64 lo∧s10 = .int .i64 hi∧lo≤hi∧hi≤l.length∧Hid (∀ t (ht:t<l.length),t<lo→lexB l[t] x=true)∧Hid (∀ t (ht:t<l.length),hi≤t→lexB l[t] x=false)∧Below w.heap.size w wr) (fun s9 s10 _=>(intOf s10).toNat-(intOf s9).toNat)
  case atStart=>exact ⟨0,l.length,rfl,rfl,Nat.zero_le _,Nat.le_refl _,hide (fun t ht h=>absurd h (Nat.not_lt_zero _)),hide (fun t ht h=>by omega),Below.refl _ _⟩
  case round =>
    obtain ⟨lo,hi,rfl,rfl,hlh,hin,hL,hH,hB⟩:=hrel
    by_cases hlt:lo<hi
    · have hm:(lo+hi) / 2<l.length:=by omega
      obtain ⟨ad,v',rfl,hc,hv⟩:=HC.out ((lo+hi) / 2) hm
      have hc':=(hB.cell (block_lt hc)).trans hc
      have HCALL:=hide (HF.out _ hB _ hm v' hv)
      by_cases hy:lexB l[(lo+hi) / 2] x=true
      · have hcm:=(HN.out _ hm).2 hy
        have HY:=hide hy
        clear hy hc HC
        go_wp2_with ((with_reducible refine HCALL.out.mono ?_);rintro e w2 ⟨rfl,hb2⟩;dsimp only)
        go_roundw
        case rel =>
          refine ⟨(lo+hi) / 2+1,hi,by rw [show ((lo:Int)+(hi:Int)) / 2+1=(((lo+hi) / 2+1:Nat):Int) by omega],rfl,by omega,hin,hide (fun t ht h=>HS.out t ((lo+hi) / 2) (by omega) ht hm HY.out),hH,below_trans hB hb2 (Nat.le_refl _)⟩
        case measure=>simp [intOf];omega
      · have hcm:¬ cmpL l[(lo+hi) / 2] x<0:=fun h=>hy ((HN.out _ hm).1 h)
        have HY:=hide hy
        clear hy hc HC
        go_wp2_with ((with_reducible refine HCALL.out.mono ?_);rintro e w2 ⟨rfl,hb2⟩;dsimp only)
        go_roundw
        case rel =>
          refine ⟨lo,(lo+hi) / 2,rfl,by rw [show ((lo:Int)+(hi:Int)) / 2=(((lo+hi) / 2:Nat):Int) by omega],by omega,by omega,hL,hide (fun t ht h => ?_),below_trans hB hb2 (Nat.le_refl _)⟩
          cases h2:lexB l[t] x
          · rfl
          · exact absurd (HS.out _ t h hm ht h2) HY.out
        case measure=>simp [intOf];omega
    · obtain rfl:hi=lo:=by omega
      have hat:atK l x=hi:=atK_of hin (fun i h1 h2=>hL.out i h1 h2) fun h=>hH.out hi h (Nat.le_refl _)
      by_cases hn:hi<l.length
      · obtain ⟨ad,v',rfl,hc,hv⟩:=HC.out hi hn
        have hc':=(hB.cell (block_lt hc)).trans hc
        have HCALL:=hide (HF.out _ hB _ hn v' hv)
        have hz:decide (cmpL l[hi] x=0)=decide (atK l x<l.length∧l.getD (atK l x) []=x):=by
          rw [hat,getD_inL hn]
          have h1:=hH.out hi hn (Nat.le_refl _)
          unfold cmpL
          rw [h1]
          by_cases h2:l[hi]=x
          · simp [h2,hn]
          · simp [h2]
        have HZ:=hide hz
        have HA:=hide hat
        clear hz hat hc HC
        go_wp2_with ((with_reducible refine HCALL.out.mono ?_);rintro e w2 ⟨rfl,hb2⟩;dsimp only)
        go_ret2
        refine ⟨?_,below_trans hB hb2 (Nat.le_refl _)⟩
        rw [← HZ.out,HA.out]
        simp only [Bool.true_and,Ending.returned.injEq,Value.tuple.injEq]
        first | rfl | (congr 3;rw [Bool.eq_iff_iff];simp) | (simp;rw [Bool.eq_iff_iff];simp)
      · go_wp2
        go_ret2
        refine ⟨?_,hB⟩
        rw [hat]
        simp [hn]
end Go.Proofs.YtjblpcgkffhgfaaGreat
