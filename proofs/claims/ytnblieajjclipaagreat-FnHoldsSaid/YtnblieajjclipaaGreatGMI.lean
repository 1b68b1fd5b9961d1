/- Algorithms and mixtures, on the machine. Conditions: problems that are right. -/
import Derived.Test.YtnblieajjclipaaGreatME
import Derived.Test.YtnblieajjclipaaGreatPS
set_option linter.all false
namespace Go.Proofs.YtnblieajjclipaaGreat
open Go Go.RowKit Am
theorem ES (n lo hi:Int):Does Tryz.prog 128 [.int n,.int lo,.int hi] (.imm (.bool (rng n lo hi))):=by
 refine aF Tryz.func128 rfl Tryz.ntmps128 aQ (fun _ _=>by kernel_rfl) rfl (Nat.le_of_ble_eq_true rfl) ?_
 intro M0 w0
 rw [Tryz.results128]
 refine ah ?_
 refine bJ ?_
 show AV.bool _=AV.bool _
 congr
 by_cases h1:lo<=n<;>by_cases h2:n<=hi<;>simp [rng,h1,h2]
theorem Nw (n lo hi:Int):Does Tryz.prog 70 [.int n,.int lo,.int hi] (.imm (.bool (rng n lo hi))):=by
 refine aF Tryz.func70 rfl Tryz.ntmps70 aQ (fun _ _=>by kernel_rfl) rfl (Nat.le_of_ble_eq_true rfl) ?_
 intro M0 w0
 rw [Tryz.results70]
 refine ah ?_
 refine bJ ?_
 show AV.bool _=AV.bool _
 congr
 by_cases h1:lo<=n<;>by_cases h2:n<=hi<;>simp [rng,h1,h2]
theorem F9 (m s:List (List Int)) (x:Int):Does Tryz.prog 131 [prA m s,.int x] (.imm (.bool (rng x 0 ((m.length:Int)-1)))):=by
 refine aF Tryz.func131 rfl Tryz.ntmps131 aQ (fun _ _=>by kernel_rfl) rfl (Nat.le_of_ble_eq_true rfl) ?_
 intro M0 w0
 rw [Tryz.results131]
 (refine bY 0 rfl fun hf =>?_;simp only [xp,simprocAttr] at hf;simp only [xf,simprocAttr] at hf)
 refine ah ?_
 ((try refine Or.inl ?_);refine ⟨_,(ES _ _ _),.inl rfl,?_⟩;refine amC ?_)
 refine ah ?_
 refine bJ ?_
 rfl
theorem Jz (m s:List (List Int)) (row:List Int) (hrow:∀ r,r<s.length->(s.getD r []).length=m.length):Does Tryz.prog 125 [prA m s,.sl (.ints row)] (.imm (.bool (nP m.length s row))):=by
 refine aF Tryz.func125 rfl Tryz.ntmps125 aQ (fun _ _=>by kernel_rfl) rfl (Nat.le_of_ble_eq_true rfl) ?_
 intro M0 w0
 rw [Tryz.results125]
 (refine bY 0 rfl fun hf =>?_;simp only [xp,simprocAttr] at hf;simp only [xf,simprocAttr] at hf)
 (refine bY 1 rfl fun hg =>?_;simp only [xp,simprocAttr] at hg;simp only [xf,simprocAttr] at hg)
 refine ah ?_
 refine aj amQ (fun hc =>?_) (fun hc =>?_)
 ·have hn:row.length≠s.length:=by simp at hc;omega
  refine ah ?_
  refine bJ ?_
  rw [GL hn]
 have hl:row.length=s.length:=by simp at hc;omega
 refine ah ?_
 refine aA (α:=Nat) (fun k=>[(15,true,.int k)]) [2,13,14] (fun _=>[.box [.b (.sl (.ii m)),.b (.sl (.ii s))]]) (fun k=>k<=row.length/\∀ r (hr:r<k),yY m.length s r (row.getD r 0)=true) (fun k=>row.length-k) 0 (by exact bW) ⟨Nat.zero_le _,fun r hr=>by omega⟩ fun k hk =>?_
 obtain ⟨hk,hp⟩:=hk
 simp only [xr,simprocAttr]
 refine ah ?_
 refine aj amQ (fun hd =>?_) (fun hd =>?_)
 ·have hk':k<row.length:=by simpa using hd
  refine ah ?_
  ((try refine Or.inl ?_);refine ⟨_,(F9 _ _ _),.inl rfl,?_⟩;refine amC ?_)
  have hr:=hrow k (by omega)
  refine And.intro (fun h =>?_) ?_
  ·have h:=gK.1 h
   exact ⟨by decide,h.1,by omega⟩
  refine amS ?_
  refine aj amQ (fun he =>?_) (fun he =>?_)
  ·have hn:yY m.length s k (row.getD k 0)=false:=by
    unfold yY at2
    cases hq:rng (row.getD k 0) 0 ((m.length:Int)-1)
    ·rfl
    ·rw [hq] at he
     simpa using he
   refine ah ?_
   refine bJ ?_
   rw [LC hk' (by rw [← getD_in (d:=0) hk'];exact hn)]
  ·have hn:yY m.length s k (row.getD k 0)=true:=by
    unfold yY at2
    cases hq:rng (row.getD k 0) 0 ((m.length:Int)-1)
    ·rw [hq] at he;cases he
    ·rw [hq] at he
     simpa using he
   refine ah ?_
   refine ⟨k+1,by omega,fun r hr =>?_,by omega,.inl ?_⟩
   ·rcases Nat.lt_or_ge r k with h1 | h1
    ·exact hp r h1
    ·rw [show r=k by omega];exact hn
   ·exact bW
 ·have hk':k=row.length:=by simp at hd;omega
  subst hk'
  refine ah ?_
  refine bJ ?_
  rw [GN hl fun r hr=>by rw [← getD_in (d:=0) hr];exact hp r hr]
theorem xK (a b:Nat):decide ((a:Int)=b)=(a == b):=by rw [Bool.eq_iff_iff,decide_eq_true_eq,beq_iff_eq];omega
theorem Xv {α:Type} (p:α->Bool) (xs:List α):(!xs.any fun x => !p x)=xs.all p:=by rw [List.not_any_eq_all_not];simp
theorem Ku (m s:List (List Int)):Does Tryz.prog 76 [prA m s] (.imm (.bool (bg m s))) :=
 ng (fun _ _=>by kernel_rfl) fun M w us hm ha=>by
  obtain ⟨u,us',rfl,h1,h2⟩:=dK ha
  obtain rfl:=iH h2
  obtain ⟨a,b,rfl,h3,h4⟩:=zM h1
  exact Fa w _ m s ⟨a,b,rfl,mV hm h3,mV hm h4⟩
theorem kE {m s:List (List Int)} (h:bg m s=true):∀ r,r<s.length->(s.getD r []).length=m.length:=fun r hr=>by
 unfold bg at h
 simp only [Bool.and_eq_true,List.all_eq_true] at h
 have:=h.2 _ (List.getElem_mem hr)
 unfold iY at this
 simp only [Bool.and_eq_true,beq_iff_eq] at this
 rw [getD_in hr]
 exact this.1.1
end Go.Proofs.YtnblieajjclipaaGreat
