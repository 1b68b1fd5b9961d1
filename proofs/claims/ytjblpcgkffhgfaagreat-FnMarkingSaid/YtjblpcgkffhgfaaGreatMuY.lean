/- The law on random marking returns true for all draws. Conditions: bytes are bytes. -/
import Derived.Test.YtjblpcgkffhgfaaGreatGMU
import Derived.Test.YtjblpcgkffhgfaaGreatGVH
import Derived.Test.YtjblpcgkffhgfaaGreatFewI
set_option linter.all false
set_option linter.unusedSimpArgs false
set_option linter.unusedVariables false
namespace Go.Proofs.YtjblpcgkffhgfaaGreat
open Go Go.RowKit Am

theorem markDraw_d {bs:List Int} (hb:∀ b∈bs,0≤b∧b<256):Does Tryz.prog 4 [.lf (.b (.raw bs))] (.imm (.bool true)):=by
  by_cases hbig:65536<(bs.length:Int)
  · exact walkMu_big hbig
  obtain ⟨n,k,xs,a1,a2,hD⟩:=drawMark_x hb
  have c2:=spec_MarkContents_d n k xs
  have c3:=impl_MarkFaults_v n k xs
  have c4:=spec_MarkFaults_d n k xs
  have c6:=spec_CleanCounts_d n k xs
  have c7:=impl_MarkBound_d n k xs
  have c8:=spec_MarkBound_d n k xs
  unfold mfV at c3 c4
  cases hs:szB n k xs
  · have hn:¬ szB n k xs=true:=by rw [hs];decide
    simp only [hs,Bool.false_eq_true,if_false] at c2 c3 c4 c6 c7 c8
    exact walkMu_bad hbig hD (impl_MarkContents_0 n k xs hs) c2 c3 c4 (impl_CleanCounts_0 n k xs hs) c6 c7 c8
  · simp only [hs,if_true] at c2 c3 c4 c6 c7 c8
    have hok:=sz_ok hs
    have e:=size_nat hs
    have hs1:=hok.s1
    have hs2:=hok.s2
    have hlen:=hok.len
    have c11:=impl_FewestFaults_d k n xs
    have hp:pgB k n xs=true:=hs
    unfold ffV at c11
    rw [if_pos hp] at c11
    have c12:=harmonic_f k.toNat (by omega)
    rw [e] at c12
    obtain ⟨r1,r2,r3,r4⟩:=mu_last hs
    have hph:=phL_len (size:=k) (xs:=xs) xs.length
    have iF:=fr7_is (N:=fR k.toNat xs xs.length) (by have:=fR_le (size:=k.toNat) (xs:=xs) (by omega) (by omega) xs.length (Nat.le_refl _);omega)
    have k6:=mbS_bd (xs:=xs) hs1 hs2 _ (Nat.le_refl _)
    have iB:IsFr (mbV k xs) (mbS k xs (phL k xs xs.length).length) 60:=isFr_small (by decide) (by decide) (by omega) (by omega)
    have iH:=fr_har k.toNat
    have fF:=frB_iff.1 iF.ok
    have fB:=frB_iff.1 iB.ok
    have fH:=frB_iff.1 iH.ok
    have hcl:(clnV k xs).length=(phL k xs xs.length).length:=clnK_len _ _ _
    have hpl:=phI_len k xs xs.length
    have hK:=(mcK_len hs).1
    have hlast:0<(phI k xs xs.length).length→(phI k xs xs.length).getD ((phI k xs xs.length).length-1) 0=(((phL k xs xs.length).getLastD 0:Nat):Int):=fun h=>by
      rw [hpl]
      exact phI_last (List.length_pos_iff.1 (by omega))
    have hfew:fewN k.toNat xs≤60:=by
      have h1:=fR_few (size:=k.toNat) (f:=farC) (by omega) (by omega) far_ok (xs:=xs)
      have h2:=fR_le (size:=k.toNat) (xs:=xs) (by omega) (by omega) xs.length (Nat.le_refl _)
      have h3:fewN k.toNat xs=grC k.toNat farC xs []:=rfl
      omega
    refine walkMu_ok (K:=mcK n k xs) (O:=mcO n k xs) (F:=mgF k.toNat xs) (B:=mbV k xs) (Hf:=mkFr (hN k.toNat) 60) (C:=clnV k xs) (P:=phI k xs xs.length) (fw:=(fewN k.toNat xs:Int)) hbig hD (imm_of (impl_MarkContents_g n k xs hs)) c2 c3 c4 (impl_CleanCounts_i n k xs hs) c6 c7 c8 (mu_sum hs) (impl_PhasesOf_i n k xs hs) c11 c12 (mcO_ok hs).2 hlen hK (by omega) (fun h => ?_) (fun h i hi j h1 h2 => ?_) (by omega) (fun i => ?_) r4 ⟨by omega,by omega⟩ ?_ ?_ ?_ r1 r2 r3
    · rw [hlast h]
      have:(phL k xs xs.length).getLastD 0≤xs.length:=getLastD_le fun x hx=>Nat.le_of_lt (phL_mem _ x hx)
      omega
    · rw [hlast h] at h1
      exact mu_has hs hi (by omega) h2
    · rcases Nat.lt_or_ge i (clnV k xs).length with hi | hi
      · rw [getD_inL hi]
        have:(clnV k xs)[i]=cntP k xs i:=by simp [clnV,clnK]
        rw [this]
        have:=cntP_bd k xs i
        unfold cntP
        omega
      · rw [List.getD_eq_getElem?_getD,List.getElem?_eq_none hi]
        simp
    · show _≤(fr7 _).1∧(fr7 _).1≤_∧_≤(fr7 _).2∧(fr7 _).2≤_
      omega
    · omega
    · omega
end Go.Proofs.YtjblpcgkffhgfaaGreat
