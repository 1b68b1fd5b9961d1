/- The least credit on the machine: the program's function, by rounds. Conditions: games that are whole, ratios in bounds. -/
import Derived.Test.YtnblieajjclipaaGreatRA4
set_option linter.all false
namespace Go.Proofs.YtnblieajjclipaaGreat
open Go Go.RowKit Am
theorem Uh {m s:List (List Int)} {g:GmT} (hf:aU m s g) {num den:Int} (hn:0<=num/\num<=1000000) (hd:0<=den/\den<=1000000) (hno:¬ ∃ C,CrP g.list.length (rqR s) (gmE g num den) C):Does Tryz.prog 66 [gI g,frA (num,den)] (.imm (.tup [.one (.b (.val (.slice none 0 0))),.one (.b (.val (.bool false)))])):=by
 obtain ⟨W,b,hWl,hW0,hS,hdec⟩:=YK hf hn hd
 refine aF Tryz.func66 rfl Tryz.ntmps66 aQ (fun _ _=>by kernel_rfl) rfl (Nat.le_of_ble_eq_true rfl) ?_
 intro M0 w0
 rw [Tryz.results66]
 refine ah ?_
 (refine .inr (.inl (gJ (MF hf hn hd) rfl rfl rfl rfl rfl rfl rfl ?_));refine amC ?_)
 (refine .inr (.inl (gJ (hS) rfl rfl rfl rfl rfl rfl rfl ?_));refine amC ?_)
 refine ah ?_
 ((try refine Or.inl ?_);refine ⟨_,(LK W hW0),.inl rfl,?_⟩;refine amC ?_)
 refine ah ?_
 refine aj amQ (fun hc =>?_) (fun hc =>?_)
 ·refine ah ?_
  (simp only [xe,simprocAttr];refine ⟨[_,_],⟨rfl,rfl,trivial⟩,rfl,Imp.eq ?_⟩)
  rfl
 ·have hc:=of_decide_eq_false hc
  exact absurd (hdec.1 (by omega)) hno
def CrE (m s:List (List Int)) (x:Int) (a:Int×Int):Prop:=∃ C,CrP (gmQ m s x).1.list.length (rqR s) (gmE (gmQ m s x).1 a.1 a.2) C
open Classical in
noncomputable def crE (m s:List (List Int)) (x:Int) (a:Int×Int):Bool:=decide (CrE m s x a)
noncomputable def fcB (m s:List (List Int)) (x:Int) (a:Int×Int):Bool:=(okB m s x a && !(decide (1000<a.1) || decide (100<a.2))) && crE m s x a
open Classical in
theorem Pn {m s:List (List Int)} {x:Int} {a:Int×Int}:crE m s x a=true↔CrE m s x a:=by unfold crE;exact @decide_eq_true_iff _ (Classical.propDecidable _)
structure Xm (m s:List (List Int)) (x:Int) (a:Int×Int):Prop where
 q:(gmQ m s x).2=false
 r:jA a=true
 full:aU m s (gmQ m s x).1
 n:0<=a.1/\a.1<=1000
 d:1<=a.2/\a.2<=100
theorem YW {m s:List (List Int)} {x:Int} {a:Int×Int} (h1:(gmQ m s x).2=false) (h2:jA a=true) (h3:¬ 1000<a.1) (h4:¬ 100<a.2):Xm m s x a:=by
 have h5:=Ef h2
 exact ⟨h1,h2,fM h1,by omega,by omega⟩
theorem Xm.eq {m s:List (List Int)} {x:Int} {a:Int×Int} (h:Xm m s x a):fcB m s x a=crE m s x a:=by
 have h1:=h.n
 have h2:=h.d
 unfold fcB okB
 rw [h.q,h.r,decide_eq_false (show ¬ 1000<a.1 by omega),decide_eq_false (show ¬ 100<a.2 by omega)]
 rfl
theorem ZA {m s:List (List Int)} {x:Int} {a:Int×Int} (h:fcB m s x a=true):Xm m s x a/\CrE m s x a:=by
 unfold fcB at h
 rw [Bool.and_eq_true,Bool.and_eq_true,Bool.not_eq_true',Bool.or_eq_false_iff] at h
 obtain ⟨⟨h1,h2,h3⟩,h4⟩:=h
 obtain ⟨h5,h6⟩:=VQ h1
 exact ⟨YW h5 h6 (of_decide_eq_false h2) (of_decide_eq_false h3),Pn.1 h4⟩
theorem x9 (m s:List (List Int)) (x:Int) (a:Int×Int) (hb:fcB m s x a=false):Does Tryz.prog 26 [prA m s,.int x,frA a] (.imm (.tup [.one (.b (.val (.slice none 0 0))),.one (.b (.val (.bool false)))])):=by
 refine aF Tryz.func26 rfl Tryz.ntmps26 aQ (fun _ _=>by kernel_rfl) rfl (Nat.le_of_ble_eq_true rfl) ?_
 intro M0 w0
 rw [Tryz.results26]
 refine ah ?_
 cases hg:(gmQ m s x).2
 ·(refine .inr (.inl (aJ [] (rW hg) rfl rfl rfl rfl trivial rfl rfl rfl rfl ?_));refine amC ?_)
  refine ah ?_
  have hR:=F8 a
  cases hr:jA a
  ·rw [hr] at hR
   ((try refine Or.inl ?_);refine ⟨_,(hR),.inl rfl,?_⟩;refine amC ?_)
   refine ah ?_
   refine aj amQ (fun hq =>?_) (fun hq =>?_)
   ·refine ah ?_
    (simp only [xe,simprocAttr];refine ⟨[_,_],⟨rfl,rfl,trivial⟩,rfl,Imp.eq ?_⟩)
    rfl
   ·cases hq
  ·rw [hr] at hR
   ((try refine Or.inl ?_);refine ⟨_,(hR),.inl rfl,?_⟩;refine amC ?_)
   refine ah ?_
   refine aj amQ (fun hq =>?_) (fun hq =>?_)
   ·refine ah ?_
    (simp only [xe,simprocAttr];refine ⟨[_,_],⟨rfl,rfl,trivial⟩,rfl,Imp.eq ?_⟩)
    rfl
   ·have h1:¬ 1000<a.1:=fun h=>by
     rw [decide_eq_true h] at hq
     cases hq
    have h2:¬ 100<a.2:=fun h=>by
     rw [decide_eq_true h,decide_eq_false h1] at hq
     cases hq
    have hk:=YW hg hr h1 h2
    have hn:=hk.n
    have hd:=hk.d
    rw [hk.eq] at hb
    have hno:¬ CrE m s x a:=fun h=>by rw [Pn.2 h] at hb;cases hb
    refine ah ?_
    ((try refine Or.inl ?_);refine ⟨_,(Uh hk.full (num:=a.1) (den:=a.2) (by omega) (by omega) hno),.inl rfl,?_⟩;refine amC ?_)
    refine ah ?_
    (simp only [xe,simprocAttr];refine ⟨[_,_],⟨rfl,rfl,trivial⟩,rfl,Imp.eq ?_⟩)
    rfl
 ·(refine .inr (.inl (gJ (xX hg) rfl rfl rfl rfl rfl rfl rfl ?_));refine amC ?_)
  refine ah ?_
  refine .inl ⟨.bool false,.inl rfl,?_⟩
  simp only [xr,simprocAttr]
  refine amS ?_
  refine ah ?_
  refine aj amQ (fun hc =>?_) (fun hc =>?_)
  ·refine ah ?_
   (simp only [xe,simprocAttr];refine ⟨[_,_],⟨rfl,rfl,trivial⟩,rfl,Imp.eq ?_⟩)
   rfl
  ·cases hc
end Go.Proofs.YtnblieajjclipaaGreat
