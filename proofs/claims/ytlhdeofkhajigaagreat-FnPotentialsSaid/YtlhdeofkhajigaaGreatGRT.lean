/- Costs and ratios along requests, on the machine: the program's and the reference's. Conditions: none. -/
import Derived.Test.YtlhdeofkhajigaaGreatGRU
import Derived.Test.YtlhdeofkhajigaaGreatGWI
import Derived.Test.YtlhdeofkhajigaaGreatGFR
import Derived.Test.YtlhdeofkhajigaaGreatGraph
import Derived.Test.YtlhdeofkhajigaaGreatGLO
import Derived.Test.YtlhdeofkhajigaaGreatGGR
import Derived.Test.YtlhdeofkhajigaaGreatGRX
set_option linter.all false
set_option linter.unusedSimpArgs false
set_option linter.unusedVariables false
namespace Go.Proofs.YtlhdeofkhajigaaGreat
open Go Go.RowKit Am

def acB (m s nx:List (List Int)) (x:Int) (rs:List Int):Bool:=takesB m s x rs && algB m s nx
def acV (m s nx:List (List Int)) (x:Int) (rs:List Int):Int:=bif acB m s nx x rs then costS m s nx x.toNat rs else 0
def lcV (m s:List (List Int)) (x:Int) (rs:List Int):Int:=bif takesB m s x rs then optM m s x.toNat rs else 0
abbrev i2V (v:Int) (b:Bool):AV := .tup [.one (.b (.val (.int .i64 v))),.one (.b (.val (.bool b)))]
theorem opt_bd {m s:List (List Int)} (hp:probB m s=true) {x:Nat} (hx:x<m.length) {rs:List Int} (hq:reqsB s.length rs) (hl:rs.length≤60):0≤optM m s x rs∧optM m s x rs≤10000:=by
  have h:=leastM_bd (workM_ok hp hx hq (by omega) rs.length (Nat.le_refl _)) (m.length-1) (by omega)
  rw [List.take_length] at h
  unfold optM
  omega
theorem impl_AlgorithmCost_v (m s nx:List (List Int)) (x:Int) (rs:List Int):Does Tryz.prog 17 [prA m s,.sl (.ii nx),.int x,.sl (.ints rs)] (.imm (i2V (acV m s nx x rs) (acB m s nx x rs))):=by
  cases hb:acB m s nx x rs
  · unfold acV
    rw [hb]
    unfold acB at hb
    refine spec_imm Tryz.func17 rfl Tryz.ntmps17 cfOK (fun _ _=>by kernel_rfl) rfl (Nat.le_of_ble_eq_true rfl) ?_
    intro M0 w0
    rw [Tryz.results17]
    refine amGo ?_
    ((try refine Or.inl ?_);refine ⟨_,(isStarted_d m s x rs),.inl rfl,?_⟩;refine amC ?_)
    refine amGo ?_
    ((try refine Or.inl ?_);refine ⟨_,(fun hh=>isAlgorithm_d m s nx (prob_rows (takes_ok hh).1)),.inl rfl,?_⟩;refine amC ?_)
    refine amGo ?_
    refine awp_cond amQ (fun hc => ?_) (fun hc => ?_)
    · refine amGo ?_
      (simp only [xec,simprocAttr];refine ⟨[_,_],⟨rfl,rfl,trivial⟩,rfl,Imp.eq ?_⟩)
      rfl
    · revert hb hc
      cases takesB m s x rs<;>cases algB m s nx<;>simp
  · have hb2:=hb
    unfold acB at hb2
    rw [Bool.and_eq_true] at hb2
    obtain ⟨ht,ha⟩:=hb2
    obtain ⟨hp,⟨k,rfl,hk⟩,hq,hl⟩:=takes_ok ht
    unfold acV
    rw [hb,Int.toNat_natCast]
    exact algCost_d ht hp ha hk hq hl
theorem impl_LeastCost_v (m s:List (List Int)) (x:Int) (rs:List Int):Does Tryz.prog 18 [prA m s,.int x,.sl (.ints rs)] (.imm (i2V (lcV m s x rs) (takesB m s x rs))):=by
  cases ht:takesB m s x rs
  · unfold lcV
    rw [ht]
    refine spec_imm Tryz.func18 rfl Tryz.ntmps18 cfOK (fun _ _=>by kernel_rfl) rfl (Nat.le_of_ble_eq_true rfl) ?_
    intro M0 w0
    rw [Tryz.results18]
    refine amGo ?_
    ((try refine Or.inl ?_);refine ⟨_,(isStarted_d m s x rs),.inl rfl,?_⟩;refine amC ?_)
    rw [ht]
    refine amGo ?_
    refine awp_cond amQ (fun hc => ?_) (fun hc => ?_)
    · refine amGo ?_
      (simp only [xec,simprocAttr];refine ⟨[_,_],⟨rfl,rfl,trivial⟩,rfl,Imp.eq ?_⟩)
      rfl
    · simp at hc
  · obtain ⟨hp,⟨k,rfl,hk⟩,hq,hl⟩:=takes_ok ht
    unfold lcV
    rw [ht,Int.toNat_natCast]
    exact leastCost_x ht hp hk hq hl
end Go.Proofs.YtlhdeofkhajigaaGreat
/- What an exact ratio says: the plain laws. Conditions: none. -/
set_option linter.all false
set_option linter.unusedSimpArgs false
set_option linter.unusedVariables false
namespace Go.Proofs.YtlhdeofkhajigaaGreat
open Go Go.RowKit Am

/-- a potential that is told has numbers of at least 0, and fits -/
theorem pt_facts {m s nx:List (List Int)} {x:Int} {a:Int×Int} {w:List Int} (h:ptO m s nx x a=some w):(prQ m s nx x).2=false∧ratioB a=true∧tbB (prQ m s nx x).1.list.length w=true∧(PotE (egs (prQ m s nx x).1.rows) (wtR a.1 a.2) fun v=>w.getD v 0)∧(∀ v,0≤w.getD v 0∧w.getD v 0≤100000000000000)∧0<w.length:=by
  unfold ptO at h
  cases hq:(prQ m s nx x).2
  · cases hra:ratioB a
    · rw [hq,hra] at h;cases h
    · rw [hq,hra] at h
      have hF:=prQ_full hq
      have h:potT (egs (prQ m s nx x).1.rows) a (prQ m s nx x).1.list.length=some w:=h
      generalize (prQ m s nx x).1=g at h hF ⊢
      obtain ⟨h1,h2,h3,h4⟩:=ratio_ok hra
      have hE:=eg_I hF
      have hpos:=hF.pos
      have hle:=hF.le
      have hW:=wt_bd (eg_c hF) (a:=a.1) (b:=a.2) h1 h2 (by omega) (by omega)
      rcases potT_ok (egs g.rows) a g.list.length with ⟨t,k1,k2⟩ | ⟨k1,k2⟩
      · rw [h] at k2
        cases k2
        obtain ⟨b1,b2,b3,b4⟩:=ends_least (fun s t=>BI.jac hE.ed (s:=s) (t:=t)) k1
        have q3:=k1.1
        have hbd:∀ v,0≤(rnd (jxR (wtR a.1 a.2) (egs g.rows)) g.list.length (t+1)).num.getD v 0∧(rnd (jxR (wtR a.1 a.2) (egs g.rows)) g.list.length (t+1)).num.getD v 0≤100000000000000:=fun v=>by
          have q1:=b2 v
          have q2:=rndj_bd (W:=100000000000) hE.ed (by omega) (fun e he=>(hW e he).2.2) (t+1) v
          unfold nbN at q1 q2
          have q4:((t+1:Nat):Int)*100000000000≤601*100000000000:=Int.mul_le_mul_of_nonneg_right (by omega) (by omega)
          omega
        refine ⟨rfl,rfl,?_,b1,hbd,by omega⟩
        unfold tbB
        rw [Bool.and_eq_true,beq_iff_eq,allIn_iff]
        refine ⟨b4,fun y hy => ?_⟩
        obtain ⟨i,hi,rfl⟩:=List.mem_iff_getElem.1 hy
        have:=hbd i
        rw [getD_in hi] at this
        omega
      · rw [h] at k2;cases k2
  · rw [hq] at h;cases h
end Go.Proofs.YtlhdeofkhajigaaGreat
