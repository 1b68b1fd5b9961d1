/- The laws' likeness of slices of fractions, on the machine; nil slices of fractions. Conditions: fractions of two ints. -/
import Derived.Test.YtjblpcgkffhgfaaGTX
import Derived.Test.YtjblpcgkffhgfaaGCT
import Derived.Test.YtjblpcgkffhgfaaMarkSz
set_option linter.all false
set_option linter.unusedSimpArgs false
set_option linter.unusedVariables false
namespace Go.Proofs.Ytjblpcgkffhgfaa
open Go Go.RowKit Am

theorem eqFracS_d (xs ys:List (List Int)) (hx:∀ x∈xs,x.length=2) (hy:∀ y∈ys,y.length=2):Does Try.prog 13 [.sl (.k 2 xs),.sl (.k 2 ys)] (.imm (.bool (decide (xs=ys)))):=by
  refine spec_imm Try.func13 rfl Try.ntmps13 cfOK (fun _ _=>by kernel_rfl) rfl (Nat.le_of_ble_eq_true rfl) ?_
  intro M0 w0
  rw [Try.results13]
  (refine awp_fits 0 rfl fun hf => ?_;simp only [xp,simprocAttr] at hf;simp only [xf,simprocAttr] at hf)
  refine amGo ?_
  refine awp_cond amQ (fun hc => ?_) (fun hc => ?_)
  · have hn:xs≠ys:=fun e=>by simp [e] at hc
    refine amGo ?_
    (simp only [xe,simprocAttr];refine ⟨_,rfl,rfl,Imp.eq ?_⟩)
    rw [decide_eq_false hn]
  have hl:xs.length=ys.length:=by simp at hc;omega
  refine amGo ?_
  refine awp_rounds (α:=Nat) (fun k=>[(5,true,.int k)]) [0,1] (fun _=>[]) (fun k=>k≤xs.length∧xs.take k=ys.take k) (fun k=>xs.length-k) 0 (by ((try simp only [xk]);(repeat (refine leK_cons ?_ ?_;first | (exact amE) | rotate_left));(try exact leK_nil rfl);(all_goals (try (simp only [xr,simprocAttr];try refine int_eq1 ?_))))) ⟨Nat.zero_le _,rfl⟩ fun k hk => ?_
  obtain ⟨hk,hp⟩:=hk
  simp only [xr,simprocAttr]
  refine amGo ?_
  refine awp_cond amQ (fun hd => ?_) (fun hd => ?_)
  · have hk':k<xs.length:=by simpa using hd
    have hky:k<ys.length:=by omega
    have h2:((xs.getD k []).getD 0 0=(ys.getD k []).getD 0 0∧(xs.getD k []).getD 1 0=(ys.getD k []).getD 1 0)→xs.getD k []=ys.getD k []:=by
      have e1:=hx _ (List.getElem_mem hk')
      have e2:=hy _ (List.getElem_mem hky)
      rw [getD_in hk',getD_in hky]
      match h1:xs[k],h2:ys[k],e1,e2 with
      | [u0,u1],[v0,v1],_,_ =>
        intro ⟨h3,h4⟩
        have h3:u0=v0:=h3
        have h4:u1=v1:=h4
        rw [h3,h4]
    refine amGo ?_
    ((try refine Or.inl ?_);refine ⟨_,(eqFrac_d ((xs.getD k []).getD 0 0,(xs.getD k []).getD 1 0) ((ys.getD k []).getD 0 0,(ys.getD k []).getD 1 0)),.inl rfl,?_⟩;refine amC ?_)
    refine amGo ?_
    refine awp_cond amQ (fun he => ?_) (fun he => ?_)
    · have hn:xs≠ys:=fun e=>by simp [e] at he
      refine amGo ?_
      (simp only [xe,simprocAttr];refine ⟨_,rfl,rfl,Imp.eq ?_⟩)
      rw [decide_eq_false hn]
    · refine amGo ?_
      refine ⟨k+1,by omega,?_,by omega,.inl ?_⟩
      · have h2:xs.getD k []=ys.getD k []:=h2 (by simpa using he)
        rw [List.take_succ_eq_append_getElem hk',List.take_succ_eq_append_getElem hky,hp,← getD_in (d:=[]) hk',← getD_in (d:=[]) hky,h2]
      · ((try simp only [xk]);(repeat (refine leK_cons ?_ ?_;first | (exact amE) | rotate_left));(try exact leK_nil rfl);(all_goals (try (simp only [xr,simprocAttr];try refine int_eq1 ?_))))
  · have hk':k=xs.length:=by simp at hd;omega
    subst hk'
    have he:xs=ys:=by rw [List.take_length,hl,List.take_length] at hp;exact hp
    refine amGo ?_
    (simp only [xe,simprocAttr];refine ⟨_,rfl,rfl,Imp.eq ?_⟩)
    rw [decide_eq_true he]
theorem markF_n (k:Int):Does Try.prog 16 [.val (.slice none 0 0),.int k] (.imm (.int k)) :=
  Does.args (markF_0 k) fun M us ha=>by
    obtain ⟨u,us',rfl,h1,h2⟩:=args_inv ha
    exact args_cons (nil_av (c := .k 2 []) rfl (fun _ h=>by cases h) h1) h2
theorem heldF_n (k:Int):Does Try.prog 18 [.val (.slice none 0 0),.int k] (.imm (.int k)) :=
  Does.args (heldF_0 k) fun M us ha=>by
    obtain ⟨u,us',rfl,h1,h2⟩:=args_inv ha
    exact args_cons (nil_av (c := .k 2 []) rfl (fun _ h=>by cases h) h1) h2
theorem eqFracS_n:Does Try.prog 13 [.val (.slice none 0 0),.sl (.k 2 [])] (.imm (.bool (decide (([]:List (List Int))=[])))) :=
  Does.args (eqFracS_d [] [] (fun _ h=>by cases h) (fun _ h=>by cases h)) fun M us ha=>by
    obtain ⟨u,us',rfl,h1,h2⟩:=args_inv ha
    exact args_cons (nil_av (c := .k 2 []) rfl (fun _ h=>by cases h) h1) h2
end Go.Proofs.Ytjblpcgkffhgfaa
