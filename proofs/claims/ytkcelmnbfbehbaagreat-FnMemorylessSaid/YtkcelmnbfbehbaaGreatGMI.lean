/- Algorithms and mixtures, on the machine. Conditions: problems that are right. -/
import Derived.Test.YtkcelmnbfbehbaaGreatPS
set_option linter.all false
namespace Go.Proofs.YtkcelmnbfbehbaaGreat
open Go Go.RowKit Am
theorem Xi (n lo hi:Int):Does Tryz.prog 118 [.int n,.int lo,.int hi] (.imm (.bool (rng n lo hi))):=by
 refine aC Tryz.func118 rfl Tryz.ntmps118 aX (fun _ _=>by kernel_rfl) rfl (Nat.le_of_ble_eq_true rfl) ?_
 intro M0 w0
 rw [Tryz.results118]
 refine ah ?_
 refine bV ?_
 show AV.bool _=AV.bool _
 congr
 by_cases h1:lo<=n<;>by_cases h2:n<=hi<;>simp [rng,h1,h2]
theorem FV (m s:List (List Int)) (x:Int):Does Tryz.prog 58 [prA m s,.int x] (.imm (.bool (rng x 0 ((m.length:Int)-1)))):=by
 refine aC Tryz.func58 rfl Tryz.ntmps58 aX (fun _ _=>by kernel_rfl) rfl (Nat.le_of_ble_eq_true rfl) ?_
 intro M0 w0
 rw [Tryz.results58]
 (refine dJ 0 rfl fun hf =>?_;simp only [xp,simprocAttr] at hf;simp only [xf,simprocAttr] at hf)
 refine ah ?_
 ((try refine Or.inl ?_);refine ⟨_,(Xi _ _ _),.inl rfl,?_⟩;refine amC ?_)
 refine ah ?_
 refine bV ?_
 rfl
theorem Jk (m s:List (List Int)) (row:List Int) (hrow:∀ r,r<s.length->(s.getD r []).length=m.length):Does Tryz.prog 112 [prA m s,.sl (.ints row)] (.imm (.bool (oW m.length s row))):=by
 refine aC Tryz.func112 rfl Tryz.ntmps112 aX (fun _ _=>by kernel_rfl) rfl (Nat.le_of_ble_eq_true rfl) ?_
 intro M0 w0
 rw [Tryz.results112]
 (refine dJ 0 rfl fun hf =>?_;simp only [xp,simprocAttr] at hf;simp only [xf,simprocAttr] at hf)
 (refine dJ 1 rfl fun hg =>?_;simp only [xp,simprocAttr] at hg;simp only [xf,simprocAttr] at hg)
 refine ah ?_
 refine aj amQ (fun hc =>?_) (fun hc =>?_)
 ·have hn:row.length≠s.length:=by simp at hc;omega
  refine ah ?_
  refine bV ?_
  rw [RP hn]
 have hl:row.length=s.length:=by simp at hc;omega
 refine ah ?_
 refine au (α:=Nat) (fun k=>[(15,true,.int k)]) [2,13,14] (fun _=>[.box [.b (.sl (.ii m)),.b (.sl (.ii s))]]) (fun k=>k<=row.length/\∀ r (hr:r<k),EX m.length s r (row.getD r 0)=true) (fun k=>row.length-k) 0 (by exact dQ) ⟨Nat.zero_le _,fun r hr=>by omega⟩ fun k hk =>?_
 obtain ⟨hk,hp⟩:=hk
 simp only [xr,simprocAttr]
 refine ah ?_
 refine aj amQ (fun hd =>?_) (fun hd =>?_)
 ·have hk':k<row.length:=by simpa using hd
  refine ah ?_
  ((try refine Or.inl ?_);refine ⟨_,(FV _ _ _),.inl rfl,?_⟩;refine amC ?_)
  have hr:=hrow k (by omega)
  refine And.intro (fun h =>?_) ?_
  ·have h:=jf.1 h
   exact ⟨by decide,h.1,by omega⟩
  refine amS ?_
  refine aj amQ (fun he =>?_) (fun he =>?_)
  ·have hn:EX m.length s k (row.getD k 0)=false:=by
    unfold EX at2
    cases hq:rng (row.getD k 0) 0 ((m.length:Int)-1)
    ·rfl
    ·rw [hq] at he
     simpa using he
   refine ah ?_
   refine bV ?_
   rw [WW hk' (by rw [← getD_in (d:=0) hk'];exact hn)]
  ·have hn:EX m.length s k (row.getD k 0)=true:=by
    unfold EX at2
    cases hq:rng (row.getD k 0) 0 ((m.length:Int)-1)
    ·rw [hq] at he;cases he
    ·rw [hq] at he
     simpa using he
   refine ah ?_
   refine ⟨k+1,by omega,fun r hr =>?_,by omega,.inl ?_⟩
   ·rcases Nat.lt_or_ge r k with h1 | h1
    ·exact hp r h1
    ·rw [show r=k by omega];exact hn
   ·exact dQ
 ·have hk':k=row.length:=by simp at hd;omega
  subst hk'
  refine ah ?_
  refine bV ?_
  rw [RQ hl fun r hr=>by rw [← getD_in (d:=0) hr];exact hp r hr]
theorem C9 (m s:List (List Int)) (row:List Int) (hrow:∀ r,r<s.length->(s.getD r []).length=m.length):Does Tryz.prog 160 [.sl (.ints row),.lf (.ip [.sl (.ii m),.sl (.ii s)] 0)] (.imm (.bool (!oW m.length s row))):=by
 refine aC Tryz.func160 rfl Tryz.ntmps160 aX (fun _ _=>by kernel_rfl) rfl (Nat.le_of_ble_eq_true rfl) ?_
 intro M0 w0
 rw [Tryz.results160]
 refine ah ?_
 ((try refine Or.inl ?_);refine ⟨_,(Jk _ _ _ hrow),.inl rfl,?_⟩;refine amC ?_)
 refine ah ?_
 refine bV ?_
 rfl
theorem EO (m s next:List (List Int)) (hrow:∀ r,r<s.length->(s.getD r []).length=m.length):Does Tryz.prog 124 [prA m s,.sl (.ii next)] (.imm (.bool (pY m s next))):=by
 refine aC Tryz.func124 rfl Tryz.ntmps124 aX (fun _ _=>by kernel_rfl) rfl (Nat.le_of_ble_eq_true rfl) ?_
 intro M0 w0
 rw [Tryz.results124]
 refine ah ?_
 ((try refine Or.inl ?_);refine ⟨_,(fun _=>zh next _ [.ip [.sl (.ii m),.sl (.ii s)] 0] (fun r => !oW m.length s r) rfl fun j hj=>C9 m s _ hrow),.inl rfl,?_⟩;refine amC ?_)
 refine ah ?_
 refine bV ?_
 have e:(!next.any fun r => !oW m.length s r)=next.all (oW m.length s):=by rw [List.not_any_eq_all_not];simp
 show AV.bool _=AV.bool _
 rw [e]
 unfold pY
 congr 1
 by_cases h:next.length=m.length
 ·simp [h]
 ·have:¬ ((next.length:Int)=m.length):=by omega
  simp [h,this]
theorem sQ (m s:List (List Int)):Does Tryz.prog 80 [prA m s] (.imm (.bool (aO m s))) :=
 nJ (fun _ _=>by kernel_rfl) fun M w us hm ha=>by
  obtain ⟨u,us',rfl,h1,h2⟩:=dh ha
  obtain rfl:=iq h2
  obtain ⟨a,b,rfl,h3,h4⟩:=Dv h1
  exact EP w _ m s ⟨a,b,rfl,jO hm h3,jO hm h4⟩
theorem sS (m s:List (List Int)):Does Tryz.prog 62 [prA m s] (.imm (.bool (aO m s))) :=
 nJ (fun _ _=>by kernel_rfl) fun M w us hm ha=>by
  obtain ⟨u,us',rfl,h1,h2⟩:=dh ha
  obtain rfl:=iq h2
  obtain ⟨a,b,rfl,h3,h4⟩:=Dv h1
  exact Dk w _ m s ⟨a,b,rfl,jO hm h3,jO hm h4⟩
theorem eG {m s:List (List Int)} (h:aO m s=true):∀ r,r<s.length->(s.getD r []).length=m.length:=fun r hr=>by
 unfold aO at h
 simp only [Bool.and_eq_true,List.all_eq_true] at h
 have:=h.2 _ (List.getElem_mem hr)
 unfold jq at this
 simp only [Bool.and_eq_true,beq_iff_eq] at this
 rw [getD_in hr]
 exact this.1.1
end Go.Proofs.YtkcelmnbfbehbaaGreat
