/- Whether the algorithm can keep the sums of gains bounded: the reference's function. Conditions: games that are whole, ratios in bounds. -/
import Derived.Test.YtkcelmnbfbehbaaRA5
set_option linter.all false
set_option linter.unusedSimpArgs false
set_option linter.unusedVariables false
namespace Go.Proofs.Ytkcelmnbfbehbaa
open Go Go.RowKit Am

theorem holds_d {m s:List (List Int)} {t:OffT} {g:GmT} (hx:GmX m s t g) (b:Bool) {num den:Int} (hn:0≤num∧num≤1000000) (hd:0≤den∧den≤1000000) {B:Bool} (hBi:B=true↔∃ C,CrP g.list.length (rqR s) (gmE g num den) C):Does Try.prog 21 [gA g b,frA (den,num)] (.imm (.bool B)):=by
  have hf:=hx.full
  have hB:=gmB_of hf hn hd
  have hle:=hf.le
  have hpos:=hf.pos
  have hml:=dim_rep g.list.length s.length true
  have hok:=gmS_ok hB (List.replicate g.list.length (List.replicate s.length true))
  have hC0:SpC (gmS s g num den (List.replicate g.list.length (List.replicate s.length true))) (fun _ _ => -1):=⟨fun i r hi hr=>by omega,fun i r hi hr=>by omega⟩
  obtain ⟨V0,hV0⟩:=spV_first (g:=gmS s g num den (List.replicate g.list.length (List.replicate s.length true))) (give:=gv) (ch:=fun _ _ => -1) (fun _ _ _ _=>rfl) (by decide)
  obtain ⟨ks,W,hX⟩:=spX_ex hok (by omega) (by decide) _ _ V0 (Nat.le_refl _) hC0 hV0
  have hend:=hX.end (a:=(g.list.length:Int)+1) (gain:=fun i r k=>gainC num den (((g.ch.getD i []).getD r []).getD k [])) hok (by omega) hC0 (fun i r k _ _ _=>rfl)
  have hend:EndA g.list.length (fun i r=>r<s.length∧((List.replicate g.list.length (List.replicate s.length true)).getD i []).getD r false=true) (gmE g num den) ((g.list.length:Int)+1) gv (g.list.length*10000000000) W:=hend
  have hend2:EndA g.list.length (rqR s) (gmE g num den) ((g.list.length:Int)+1) gv (g.list.length*10000000000) W:=by
    refine ⟨hend.pos,fun i r hi hr=>hend.alg i r hi ⟨hr,?_⟩,fun i hi h0 => ?_,hend.gap⟩
    · simp [hi,show r<s.length from hr]
    · obtain ⟨r,⟨hr,_⟩,h⟩:=hend.adv i hi h0
      exact ⟨r,hr,h⟩
  have hgv:gv=100000000000000000:=rfl
  have hM:(g.list.length:Int)*10000000000≤600000000000:=by omega
  have key:decide (W 0<50000000000000000)=B:=by
    cases hBv:B
    · refine decide_eq_false fun hlt => ?_
      have hno:¬ ∃ C,CrP g.list.length (rqR s) (gmE g num den) C:=fun h=>by rw [hBi.2 h] at hBv;cases hBv
      apply hno
      have h0:W 0≤g.list.length*10000000000:=by
        rcases hend2.gap 0 hpos with h | h<;>omega
      have hend3:EndA g.list.length (rqR s) (gmE g num den) ((g.list.length+1:Nat):Int) gv (g.list.length*10000000000) W:=by rw [Int.natCast_add];exact hend2
      obtain ⟨C,hC⟩:=hend3.credit hB.eok (by omega) (by rw [Int.natCast_add];omega) (by omega)
      refine mimic hx hn.1 hd.1 (fun i=>i<g.list.length∧W i≤g.list.length*10000000000) C ⟨0,hpos,hpos,h0⟩ fun j hj hP=>⟨(hC j hj hP.2).1,fun r hr => ?_⟩
      obtain ⟨t,w,h1,h2,h3⟩:=(hC j hj hP.2).2 r hr
      exact ⟨t,w,h1,⟨(hB.eok j r t w hj hr h1).1,h2⟩,h3⟩
    · refine decide_eq_true ?_
      obtain ⟨C,hC⟩:=hBi.1 hBv
      have h1:=Int.mul_le_mul (show (g.list.length:Int)+1≤61 by omega) (show (g.list.length:Int)*119000000≤60*119000000 by omega) (by omega) (by omega)
      have:=hend2.small hB.eok (by omega) (by omega) (by omega) hC 0 hpos
      omega
  rw [← key]
  have h1:Does Try.prog 37 [gA g b] (.imm (.sl (.bbo (List.replicate g.list.length (List.replicate s.length true))))):=imm_of (l10Any_h hf b)
  have h2:Does Try.prog 36 [gA g b,frA (den,num),.sl (.bbo (List.replicate g.list.length (List.replicate s.length true)))] (.imm (.sl (.ints ((List.range g.list.length).map W)))):=imm_of (values_h10 hf b hn hd hml hX)
  have hWl:((List.range g.list.length).map W).length=g.list.length:=by simp
  have hW0:((List.range g.list.length).map W).getD 0 0=W 0:=mapI_getD hpos
  refine spec_imm Try.func21 rfl Try.ntmps21 cfOK (fun _ _=>by kernel_rfl) rfl (Nat.le_of_ble_eq_true rfl) ?_
  intro M0 w0
  rw [Try.results21]
  refine amGo ?_
  ((try refine Or.inl ?_);refine ⟨_,(h1),amF,?_⟩;refine amC ?_)
  ((try refine Or.inl ?_);refine ⟨_,(h2),amF,?_⟩;refine amC ?_)
  refine amGo ?_
  (simp only [xe,simprocAttr];refine ⟨_,rfl,rfl,Imp.eq ?_⟩)
  rw [← hW0]
end Go.Proofs.Ytkcelmnbfbehbaa
