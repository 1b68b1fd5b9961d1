/- Positions of games on the machine: where one lies in a list. Conditions: positions of two numbers. -/
import Derived.Test.YtlhdeofkhajigaaGreatOF
import Derived.Test.YtlhdeofkhajigaaGreatGA
set_option linter.all false
set_option linter.unusedSimpArgs false
set_option linter.unusedVariables false
namespace Go.Proofs.YtlhdeofkhajigaaGreat
open Go Go.RowKit Am

theorem two_of {l:List (List Int)} (h:∀ p∈l,p.length=2) {k:Nat} (hk:k<l.length):[(l.getD k []).getD 0 0,(l.getD k []).getD 1 0]=l[k]:=by
  rw [getD_in hk]
  have h2:=h _ (List.getElem_mem hk)
  match e:l[k],h2 with
  | [a,b],_=>rfl
theorem index2_d (l:List (List Int)) (a b:Int) (hl:∀ p∈l,p.length=2):Does Tryz.prog 91 [.sl (.k 2 l),.tv (.agg [.b (.val (.int .i64 a)),.b (.val (.int .i64 b))])] (.imm (.int (whereT l [a,b]))):=by
  refine spec_imm Tryz.func91 rfl Tryz.ntmps91 cfOK (fun _ _=>by kernel_rfl) rfl (Nat.le_of_ble_eq_true rfl) ?_
  intro M0 w0
  rw [Tryz.results91]
  (refine awp_fits 0 rfl fun hf => ?_;simp only [xp,simprocAttr] at hf;simp only [xf,simprocAttr] at hf)
  refine amGo ?_
  refine awp_rounds (α:=Nat) (fun k=>[(8,true,.int k)]) [0,3,6,7] (fun _=>[.box [.b (.val (.int .i64 a)),.b (.val (.int .i64 b))]]) (fun k=>k≤l.length∧∀ x∈l.take k,decide (x=[a,b])=false) (fun k=>l.length-k) 0 (by ((try simp only [xk]);(repeat (refine leK_cons ?_ ?_;first | (exact amE) | rotate_left));(try exact leK_nil rfl);(all_goals (try (simp only [xr,simprocAttr];try refine int_eq1 ?_))))) ⟨Nat.zero_le _,by simp⟩ fun k hk => ?_
  obtain ⟨hk,hp⟩:=hk
  simp only [xr,simprocAttr]
  refine amGo ?_
  refine awp_cond amQ (fun hc => ?_) (fun hc => ?_)
  · have hk':k<l.length:=by simpa using hc
    have h2:=two_of hl hk'
    refine amGo ?_
    refine awp_cond amQ (fun hd => ?_) (fun hd => ?_)
    · have hd:=of_decide_eq_true hd
      have e:whereT l [a,b]=k:=idxOf_some hk' (by rw [← h2,hd];simp) hp
      refine amGo ?_
      (simp only [xe,simprocAttr];refine ⟨_,rfl,rfl,Imp.eq ?_⟩)
      rw [e]
    · have hd:=of_decide_eq_false hd
      refine amGo ?_
      refine ⟨k+1,by omega,fun x hx' => ?_,by omega,.inl ?_⟩
      · rw [List.take_succ_eq_append_getElem hk',List.mem_append,List.mem_singleton] at hx'
        rcases hx' with hx' | rfl
        · exact hp x hx'
        · rw [← h2];exact decide_eq_false fun e=>hd e.symm
      · ((try simp only [xk]);(repeat (refine leK_cons ?_ ?_;first | (exact amE) | rotate_left));(try exact leK_nil rfl);(all_goals (try (simp only [xr,simprocAttr];try refine int_eq1 ?_))))
  · have hk':k=l.length:=by simp at hc;omega
    subst hk'
    rw [List.take_length] at hp
    have e:whereT l [a,b] = -1:=idxOf_none hp
    refine amGo ?_
    (simp only [xe,simprocAttr];refine ⟨_,rfl,rfl,Imp.eq ?_⟩)
    rw [e]
theorem pos_len {n l:Nat} {p:List Int} (h:posOK n l p):p.length=2:=by
  obtain ⟨_,_,rfl,_⟩:=h
  rfl
theorem offsets_g {m s:List (List Int)} {x:Nat} (hp:probB m s=true) (hx:x<m.length) (h:(offs m s x).2=false):Does Tryz.prog 90 [prA m s,.int x] (.imm (.tup [.one (.b (.sl (.ii (offs m s x).1.list))),.one (.b (.sl (.ii (offs m s x).1.next))),.one (.b (.sl (.ii (offs m s x).1.grows))),.one (.b (.val (.bool true)))])):=by
  have:=offsets_d m s x hp hx
  unfold offV at this
  rw [h] at this
  exact this
theorem offsets_b {m s:List (List Int)} {x:Nat} (hp:probB m s=true) (hx:x<m.length) (h:(offs m s x).2=true):Does Tryz.prog 90 [prA m s,.int x] (.imm (.tup [.one (.b (.val (.slice none 0 0))),.one (.b (.val (.slice none 0 0))),.one (.b (.val (.slice none 0 0))),.one (.b (.val (.bool false)))])):=by
  have:=offsets_d m s x hp hx
  unfold offV at this
  rw [h] at this
  exact this
end Go.Proofs.YtlhdeofkhajigaaGreat
/- Games on the machine: the reference's. Conditions: none. -/
set_option linter.all false
set_option linter.unusedSimpArgs false
set_option linter.unusedVariables false
namespace Go.Proofs.YtlhdeofkhajigaaGreat
open Go Go.RowKit Am

/-- what the reference keeps of a choice -/
def c4 (c:List Int):List Int:=[c.getD 5 0,c.getD 1 0,c.getD 2 0,c.getD 3 0]
theorem posT_new {l:List (List Int)} {x:List Int}:posT l x=(l.length:Int)↔whereT l x<0:=by
  unfold posT
  by_cases h:whereT l x<0
  · rw [if_pos h]
    exact ⟨fun _=>h,fun _=>rfl⟩
  · rw [if_neg h]
    obtain ⟨k,hk,h1,-⟩:=idxOf_lt (Int.not_lt.1 h)
    have h1:whereT l x=k:=h1
    omega
end Go.Proofs.YtlhdeofkhajigaaGreat
/- Games on the machine: the reference's, with its guards. Conditions: none. -/
set_option linter.all false
set_option linter.unusedSimpArgs false
set_option linter.unusedVariables false
namespace Go.Proofs.YtlhdeofkhajigaaGreat
open Go Go.RowKit Am

end Go.Proofs.YtlhdeofkhajigaaGreat
