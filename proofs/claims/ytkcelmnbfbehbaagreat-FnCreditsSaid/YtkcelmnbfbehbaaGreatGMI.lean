/- Algorithms and mixtures, on the machine. Conditions: problems that are right. -/
import Derived.Test.YtkcelmnbfbehbaaGreatME
import Derived.Test.YtkcelmnbfbehbaaGreatPS
set_option linter.all false
namespace Go.Proofs.YtkcelmnbfbehbaaGreat
open Go Go.RowKit Am
theorem Me (n lo hi:Int):Does Tryz.prog 118 [.int n,.int lo,.int hi] (.imm (.bool (rng n lo hi))):=by
 refine aF Tryz.func118 rfl Tryz.ntmps118 aP (fun _ _=>by kernel_rfl) rfl (Nat.le_of_ble_eq_true rfl) ?_
 intro M0 w0
 rw [Tryz.results118]
 refine ah ?_
 refine bI ?_
 show AV.bool _=AV.bool _
 congr
 by_cases h1:lo<=n<;>by_cases h2:n<=hi<;>simp [rng,h1,h2]
theorem ZG (n lo hi:Int):Does Tryz.prog 117 [.int n,.int lo,.int hi] (.imm (.bool (rng n lo hi))):=by
 refine aF Tryz.func117 rfl Tryz.ntmps117 aP (fun _ _=>by kernel_rfl) rfl (Nat.le_of_ble_eq_true rfl) ?_
 intro M0 w0
 rw [Tryz.results117]
 refine ah ?_
 refine bI ?_
 show AV.bool _=AV.bool _
 congr
 by_cases h1:lo<=n<;>by_cases h2:n<=hi<;>simp [rng,h1,h2]
theorem zU (m s:List (List Int)) (x:Int):Does Tryz.prog 58 [prA m s,.int x] (.imm (.bool (rng x 0 ((m.length:Int)-1)))):=by
 refine aF Tryz.func58 rfl Tryz.ntmps58 aP (fun _ _=>by kernel_rfl) rfl (Nat.le_of_ble_eq_true rfl) ?_
 intro M0 w0
 rw [Tryz.results58]
 (refine dB 0 rfl fun hf =>?_;simp only [xp,simprocAttr] at hf;simp only [xf,simprocAttr] at hf)
 refine ah ?_
 ((try refine Or.inl ?_);refine ⟨_,(Me _ _ _),.inl rfl,?_⟩;refine amC ?_)
 refine ah ?_
 refine bI ?_
 rfl
theorem JQ (m s:List (List Int)) (row:List Int) (hrow:∀ r,r<s.length->(s.getD r []).length=m.length):Does Tryz.prog 112 [prA m s,.sl (.ints row)] (.imm (.bool (nV m.length s row))):=by
 refine aF Tryz.func112 rfl Tryz.ntmps112 aP (fun _ _=>by kernel_rfl) rfl (Nat.le_of_ble_eq_true rfl) ?_
 intro M0 w0
 rw [Tryz.results112]
 (refine dB 0 rfl fun hf =>?_;simp only [xp,simprocAttr] at hf;simp only [xf,simprocAttr] at hf)
 (refine dB 1 rfl fun hg =>?_;simp only [xp,simprocAttr] at hg;simp only [xf,simprocAttr] at hg)
 refine ah ?_
 refine aj amQ (fun hc =>?_) (fun hc =>?_)
 ·have hn:row.length≠s.length:=by simp at hc;omega
  refine ah ?_
  refine bI ?_
  rw [Hg hn]
 have hl:row.length=s.length:=by simp at hc;omega
 refine ah ?_
 refine aA (α:=Nat) (fun k=>[(15,true,.int k)]) [2,13,14] (fun _=>[.box [.b (.sl (.ii m)),.b (.sl (.ii s))]]) (fun k=>k<=row.length/\∀ r (hr:r<k),zk m.length s r (row.getD r 0)=true) (fun k=>row.length-k) 0 (by exact bY) ⟨Nat.zero_le _,fun r hr=>by omega⟩ fun k hk =>?_
 obtain ⟨hk,hp⟩:=hk
 simp only [xr,simprocAttr]
 refine ah ?_
 refine aj amQ (fun hd =>?_) (fun hd =>?_)
 ·have hk':k<row.length:=by simpa using hd
  refine ah ?_
  ((try refine Or.inl ?_);refine ⟨_,(zU _ _ _),.inl rfl,?_⟩;refine amC ?_)
  have hr:=hrow k (by omega)
  refine And.intro (fun h =>?_) ?_
  ·have h:=jc.1 h
   exact ⟨by decide,h.1,by omega⟩
  refine amS ?_
  refine aj amQ (fun he =>?_) (fun he =>?_)
  ·have hn:zk m.length s k (row.getD k 0)=false:=by
    unfold zk at2
    cases hq:rng (row.getD k 0) 0 ((m.length:Int)-1)
    ·rfl
    ·rw [hq] at he
     simpa using he
   refine ah ?_
   refine bI ?_
   rw [LU hk' (by rw [← getD_in (d:=0) hk'];exact hn)]
  ·have hn:zk m.length s k (row.getD k 0)=true:=by
    unfold zk at2
    cases hq:rng (row.getD k 0) 0 ((m.length:Int)-1)
    ·rw [hq] at he;cases he
    ·rw [hq] at he
     simpa using he
   refine ah ?_
   refine ⟨k+1,by omega,fun r hr =>?_,by omega,.inl ?_⟩
   ·rcases Nat.lt_or_ge r k with h1 | h1
    ·exact hp r h1
    ·rw [show r=k by omega];exact hn
   ·exact bY
 ·have hk':k=row.length:=by simp at hd;omega
  subst hk'
  refine ah ?_
  refine bI ?_
  rw [AA hl fun r hr=>by rw [← getD_in (d:=0) hr];exact hp r hr]
theorem Iq (a b:Nat):decide ((a:Int)=b)=(a == b):=by rw [Bool.eq_iff_iff,decide_eq_true_eq,beq_iff_eq];omega
theorem XA {α:Type} (p:α->Bool) (xs:List α):(!xs.any fun x => !p x)=xs.all p:=by rw [List.not_any_eq_all_not];simp
theorem KF (m s:List (List Int)):Does Tryz.prog 80 [prA m s] (.imm (.bool (bg m s))) :=
 qg (fun _ _=>by kernel_rfl) fun M w us hm ha=>by
  obtain ⟨u,us',rfl,h1,h2⟩:=dZ ha
  obtain rfl:=jw h2
  obtain ⟨a,b,rfl,h3,h4⟩:=En h1
  exact FT w _ m s ⟨a,b,rfl,mV hm h3,mV hm h4⟩
theorem iZ {m s:List (List Int)} (h:bg m s=true):∀ r,r<s.length->(s.getD r []).length=m.length:=fun r hr=>by
 unfold bg at h
 simp only [Bool.and_eq_true,List.all_eq_true] at h
 have:=h.2 _ (List.getElem_mem hr)
 unfold iT at this
 simp only [Bool.and_eq_true,beq_iff_eq] at this
 rw [getD_in hr]
 exact this.1.1
end Go.Proofs.YtkcelmnbfbehbaaGreat
