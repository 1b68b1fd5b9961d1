/- A clone of a list of numbers of whatever length is a new row of its own. Conditions: at most 2^20 numbers. -/
import Derived.Test.YtjblpcgkffhgfaaGreatRow0
import Derived.Test.YtjblpcgkffhgfaaGreatME
set_option linter.all false
set_option linter.unusedSimpArgs false
set_option linter.unusedVariables false
namespace Go.Proofs.YtjblpcgkffhgfaaGreat
open Go Go.RowKit Am

theorem cln_h (w:List Int) (hw2:w.length≤1048576) (hw:0<w.length):DoesH Tryz.prog 118 [.sl (.ints w)] [] [] (.lf (.own 0)) [.row 3 (.ints w)]:=by
  refine spec_hB Tryz.func118 rfl Tryz.ntmps118 cfOK (fun _ _=>by kernel_rfl) rfl rfl rfl ?_
  intro M0 w0 S φ0
  rw [Tryz.results118]
  (refine awp_fits 0 rfl fun hf => ?_;simp only [xp,simprocAttr] at hf;simp only [xf,simprocAttr] at hf)
  refine amGo ?_
  refine awp_cond amQ (fun hc => ?_) (fun hc => ?_)
  · cases hc
  refine amGoR ?_
  refine amGo ?_
  (simp only [ends_normal,ends_ret];refine retH_1 [0] rfl ⟨rfl,trivial⟩ rfl rfl rfl rfl rfl ?_;try rfl)
theorem cln_equal_none (w:World) (t e c:Nat) (h:Tryz.prog.underlying t=some (.slice e)):(Op.equal t (.slice none 0 c) (.slice none 0 0)).run Tryz.prog w = .ok true w:=by
  have aux:∀ d,(Op.equalIn (d+1) t (.slice none 0 c) (.slice none 0 0)).run Tryz.prog w = .ok true w:=fun d=>by
    unfold Op.equalIn
    simp only [Sem.run_bind,run_underlying h,Result.andThen_ok,Sem.run_pure]
    rfl
  have e:Op.maxDepth=(Op.maxDepth-1)+1:=rfl
  unfold Op.equal
  rw [e]
  exact aux _
theorem cln_eq_none (w:World) (c:Nat):(binOp .eql 24 (.slice none 0 c) (.slice none 0 0)).run Tryz.prog w = .ok (.bool true) w:=by
  simp only [binOp,cln_equal_none w _ _ c Tryz.underlying24,Sem.run_bind,Sem.run_pure,Result.andThen_ok]
theorem cln_eq_some (w:World) (a:Addr) (c:Nat):(binOp .eql 24 (.slice (some a) 0 c) (.slice none 0 0)).run Tryz.prog w = .ok (.bool false) w:=by
  simp only [binOp,run_equal_nil Tryz.underlying24,Sem.run_bind,Sem.run_pure,Result.andThen_ok]
set_option maxRecDepth 100000 in
theorem cln0_any (w:World) (A:Option Addr) (c:Nat):Calls Tryz.prog 118 #[.slice A 0 c] w fun e w'=>∃ u,e = .returned u∧w'.ownsRow 0 3 1 u 0 []∧(∀ g,blk u=some g→w.heap.size≤g∧g<w'.heap.size)∧Below w.heap.size w w':=by
  cases A with
  | none =>
    go_enter Tryz.func118,Tryz.ntmps118
    go_wp2
    rw [cln_eq_none]
    go_wp2
    go_ret
    exact ⟨_,rfl,World.ownsRow_nil _ _ _ _,fun g hg=>(by simp [blk] at hg),Below.refl _ _⟩
  | some a =>
    go_enter Tryz.func118,Tryz.ntmps118
    go_wp2
    rw [cln_eq_some]
    go_wp2
    go_ret
    refine ⟨_,rfl,⟨rfl,.inr ⟨w.heap.size,0,#[],rfl,Nat.zero_le _,heap_alloc_new w _,Nat.le_refl _,by simp [maxLen],rfl,rfl⟩⟩,fun g hg => ?_,by repeat (first | exact Below.refl _ _ | apply Below.drew | refine Below.setCell ?_ (by first | (simp;done) | (simp;omega)) _ | refine Below.alloc ?_ (by first | (simp;done) | (simp;omega)) _)⟩
    obtain rfl:w.heap.size=g:=by simpa [blk] using hg
    simp
theorem cln_a (w:List Int) (hw2:w.length≤1048576):DoesH Tryz.prog 118 [.sl (.ints w)] [] [] (.lf (.own 0)) [.row 3 (.ints w)]:=by
  cases w with
  | cons x w=>exact cln_h (x::w) hw2 (by simp)
  | nil =>
    refine doesH_row (fun _ _=>by kernel_rfl) (fun M w us hm ha => ?_) rfl
    obtain ⟨u,us',rfl,h1,h2⟩:=args_inv ha
    obtain rfl:=args_inv0 h2
    have h1':(Am.B.sl (.ints [])).rel M u:=h1
    obtain ⟨vs,⟨A,cap,e3,k1,k2,k3⟩,k4⟩:=B.rel_sl.1 h1'
    have e3:u = .slice A 0 cap:=e3
    subst e3
    refine (cln0_any w A cap).mono ?_
    rintro e w' ⟨u,rfl,h3,h4,h5⟩
    exact ⟨u,[],rfl,h3,⟨trivial,rfl,fun j o hj _=>by simp [Cn.len] at hj⟩,h4,h5⟩
end Go.Proofs.YtjblpcgkffhgfaaGreat
