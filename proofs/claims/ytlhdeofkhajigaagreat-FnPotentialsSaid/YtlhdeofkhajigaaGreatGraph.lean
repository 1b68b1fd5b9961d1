/- The graph of the pairs of an algorithm, of the reference, on the machine. Conditions: those that each names. -/
import Derived.Test.YtlhdeofkhajigaaGreatPR
import Derived.Test.YtlhdeofkhajigaaGreatGCR
set_option linter.all false
set_option linter.unusedSimpArgs false
set_option linter.unusedVariables false
namespace Go.Proofs.YtlhdeofkhajigaaGreat
open Go Go.RowKit Am

theorem l9Takes_d (m s nx:List (List Int)) (x:Int) (xs:List Int):Does Tryz.prog 55 [prA m s,.sl (.ii nx),.int x,.sl (.ints xs)] (.imm (.bool (takesB m s x xs && algB m s nx))):=by
  refine spec_imm Tryz.func55 rfl Tryz.ntmps55 cfOK (fun _ _=>by kernel_rfl) rfl (Nat.le_of_ble_eq_true rfl) ?_
  intro M0 w0
  rw [Tryz.results55]
  refine amGo ?_
  ((try refine Or.inl ?_);refine ⟨_,(l8Takes_d m s x xs),.inl rfl,?_⟩;refine amC ?_)
  refine amGo ?_
  ((try refine Or.inl ?_);refine ⟨_,(fun hh=>l8Alg_d m s nx (prob_rows (takes_ok hh).1)),.inl rfl,?_⟩;refine amC ?_)
  refine amGo ?_
  (simp only [xe,simprocAttr];refine ⟨_,rfl,rfl,Imp.eq ?_⟩)
  show AV.bool _=AV.bool _
  cases takesB m s x xs<;>rfl
theorem prQ_bad {m s nx:List (List Int)} {x:Int} (h:(takesB m s x [] && algB m s nx)=false):prQ m s nx x=(⟨[],[]⟩,true):=by unfold prQ;rw [h];rfl
theorem l9Get_d (m s nx:List (List Int)) (x:Int):Does Tryz.prog 49 [prA m s,.sl (.ii nx),.int x] (.imm (.tup [bif takesB m s x [] && algB m s nx then prAv (prQ m s nx x) else .agg [.b (.val (.slice none 0 0)),.b (.val (.slice none 0 0)),.b (.val (.bool false))],.one (.b (.val (.bool (!(prQ m s nx x).2))))])):=by
  refine spec_imm Tryz.func49 rfl Tryz.ntmps49 cfOK (fun _ _=>by kernel_rfl) rfl (Nat.le_of_ble_eq_true rfl) ?_
  intro M0 w0
  rw [Tryz.results49]
  refine amGo ?_
  ((try refine Or.inl ?_);refine ⟨_,(l9Takes_d m s nx x []),.inl rfl,?_⟩;refine amC ?_)
  refine amGo ?_
  refine awp_cond amQ (fun hc => ?_) (fun hc => ?_)
  · have hc':(takesB m s x [] && algB m s nx)=false:=by
      revert hc
      cases takesB m s x []<;>cases algB m s nx<;>decide
    rw [prQ_bad hc',hc']
    refine amGo ?_
    (simp only [xec,simprocAttr];refine ⟨[_,_],⟨⟨amK,rfl⟩,rfl,trivial⟩,rfl,Imp.eq ?_⟩)
    rfl
  · have hc':(takesB m s x [] && algB m s nx)=true:=by simpa using hc
    have hc2:=hc'
    rw [Bool.and_eq_true] at hc2
    obtain ⟨hp,⟨y,rfl,hy⟩,-,-⟩:=takes_ok hc2.1
    have hq:prQ m s nx y=pr m s nx y:=by unfold prQ;rw [hc',Int.toNat_natCast];rfl
    rw [hq,hc']
    have hg:=l9Make_d m s nx y hp hc2.2 hy
    generalize pr m s nx y=q at hg
    unfold prAv at hg ⊢
    refine amGo ?_
    ((try refine Or.inl ?_);refine ⟨_,hg,amF,?_⟩;refine amC ?_)
    refine amGo ?_
    (refine amB ?_;refine awp_anyM [1] 4 [] (by kernel_rfl) (by kernel_rfl) (by kernel_rfl) (by kernel_rfl) (by kernel_rfl) ?_;refine amM ?_)
    refine amGo ?_
    (simp only [xec,simprocAttr];refine ⟨[_,_],⟨⟨amK,rfl⟩,rfl,trivial⟩,rfl,Imp.eq ?_⟩)
    rfl
/-- what the reference keeps of a graph -/
abbrev grA (g:PrT):AV := .tv (.agg [.b (.sl (.k 2 g.list)),.b (.sl (.ki 3 (eg3 g.rows))),.b (.val (.bool false))])
theorem l9Gain_d (c:List Int) (a:Int×Int) (h1:0≤a.2*c.getD 2 0) (h2:a.2*c.getD 2 0≤1000000000000000) (h3:0≤a.1*c.getD 3 0) (h4:a.1*c.getD 3 0≤1000000000000000):Does Tryz.prog 100 [frA a,.tv (.agg [.b (.val (.int .i64 ((c3 c).getD 0 0))),.b (.val (.int .i64 ((c3 c).getD 1 0))),.b (.val (.int .i64 ((c3 c).getD 2 0)))])] (.imm (.int (gainC a.1 a.2 c))):=by
  have e1:(c3 c).getD 1 0=c.getD 2 0:=rfl
  have e2:(c3 c).getD 2 0=c.getD 3 0:=rfl
  rw [← e1] at h1 h2
  rw [← e2] at h3 h4
  refine spec_imm Tryz.func100 rfl Tryz.ntmps100 cfOK (fun _ _=>by kernel_rfl) rfl (Nat.le_of_ble_eq_true rfl) ?_
  intro M0 w0
  rw [Tryz.results100]
  refine amGo ?_
  (simp only [xe,simprocAttr];refine ⟨_,rfl,rfl,Imp.eq ?_⟩)
  rfl
theorem egs_at {c:Nat}:∀ {rows:List (List (List Int))},(∀ j,j<rows.length→(rows.getD j []).length=c)→∀ p r,p<rows.length→r<c→(egs rows).getD (p*c+r) []=(rows.getD p []).getD r []
  | [],_,p,r,hp,_=>by simp at hp
  | row::rows,h,0,r,_,hr=>by
    have h1:row.length=c:=h 0 (by simp)
    show (row++rows.flatten).getD (0*c+r) []=row.getD r []
    rw [Nat.zero_mul,Nat.zero_add,List.getD_eq_getElem?_getD,List.getD_eq_getElem?_getD,List.getElem?_append_left (by omega)]
  | row::rows,h,p+1,r,hp,hr=>by
    have h1:row.length=c:=h 0 (by simp)
    have ih:=egs_at (rows:=rows) (c:=c) (fun j hj=>by have:=h (j+1) (by simpa using hj);simpa using this) p r (by simpa using hp) hr
    show (row++rows.flatten).getD ((p+1)*c+r) []=(rows.getD p []).getD r []
    rw [List.getD_eq_getElem?_getD,List.getElem?_append_right (by rw [Nat.succ_mul];omega),← List.getD_eq_getElem?_getD,show (p+1)*c+r-row.length=p*c+r by rw [Nat.succ_mul];omega]
    exact ih
end Go.Proofs.YtlhdeofkhajigaaGreat
