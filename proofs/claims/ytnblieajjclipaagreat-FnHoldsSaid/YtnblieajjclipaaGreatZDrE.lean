/- The reference's drawn sequences of requests, on the machine. Conditions: the place is small. -/
import Derived.Test.YtnblieajjclipaaGreatZZMarkSz
set_option linter.all false
namespace Go.Proofs.YtnblieajjclipaaGreat
open Go Go.RowKit Am
def Sm (n:Int):Nat->Cu->Cu
 | 0,c=>c
 | k+1,c=>pkC n (Sm n k c)
def pkL (n:Int):Nat->Cu->List Int
 | 0,_=>[]
 | k+1,c=>pkL n k c++[pkV n (Sm n k c)]
theorem II (n:Int) (c:Cu):∀ k,(pkL n k c).length=k
 | 0=>rfl
 | k+1=>by simp [pkL,II n c k]
theorem BG {n m:Int} {c:Cu} (h:bn m c):∀ k:Nat,bn (m+2*k) (Sm n k c)
 | 0=>h.mono (by omega)
 | k+1=>(aV (BG h k)).mono (by omega)
abbrev r9N:List Int:=[0,1,2,3,4,5,7,9,12,40]
abbrev r9D:List Int:=[1,1,2,3,5]
set_option maxHeartbeats 2000000 in
theorem Wv {c:Cu} (hc:bn 999999999000 c):∃ a c',(∀ m0,bn m0 c->bn (m0+20) c')/\bP Tryz.prog 116 [.lf (.ptr 0 0)] [true] [eu c] (frA a) [eu c']:=by
 have hn:=lY (xs:=r9N) hc (by simp)
 have d1:=dF (xs:=r9N) (c:=c) (hc.mono (by omega)) (by simp)
 have hc1:=dZ (xs:=r9N) hc
 have b1:∀ m0,bn m0 c->bn (m0+2) (aqC r9N c):=fun _ h=>dZ h
 generalize amV r9N c=n at hn d1
 generalize aqC r9N c=c1 at d1 hc1 b1
 have hd:=lY (xs:=r9D) hc1 (by simp)
 have d2:=dF (xs:=r9D) (c:=c1) (hc1.mono (by omega)) (by simp)
 have hc2:=dZ (xs:=r9D) hc1
 have b2:∀ m0,bn m0 c->bn (m0+4) (aqC r9D c1):=fun _ h=>(dZ (b1 _ h)).mono (by omega)
 generalize amV r9D c1=d at hd d2
 generalize aqC r9D c1=c2 at d2 hc2 b2
 simp only [List.mem_cons,List.not_mem_nil,or_false] at hn hd
 have hok:iL n d=true:=VU (by omega) (by omega) (by omega) (by omega)
 have d3:=DC n d (by omega) (by omega) (by omega) (by omega)
 rw [hok] at d3
 generalize jw n d=a at d3
 clear hok hn hd
 have d4:=sS (n:=24) (c:=c2) (hc2.mono (by omega))
 have hc3:=aV (n:=24) hc2
 have b3:∀ m0,bn m0 c->bn (m0+6) (pkC 24 c2):=fun _ h=>(aV (b2 _ h)).mono (by omega)
 by_cases h1:pkV 24 c2=0
 ·rw [decide_eq_true h1] at d4
  generalize pkC 24 c2=c3 at d4 hc3 b3
  have d5:=dF (xs:=[-1,2,1]) (c:=c3) (hc3.mono (by omega)) (by simp)
  have hc4:=dZ (xs:=[-1,2,1]) hc3
  have b4:∀ m0,bn m0 c->bn (m0+8) (aqC [-1,2,1] c3):=fun _ h=>(dZ (b3 _ h)).mono (by omega)
  generalize amV [-1,2,1] c3=p at d5
  generalize aqC [-1,2,1] c3=c4 at d5 hc4 b4
  have d6:=dF (xs:=[1,0,4]) (c:=c4) (hc4.mono (by omega)) (by simp)
  refine ⟨(p,amV [1,0,4] c4),aqC [1,0,4] c4,fun _ h=>(dZ (b4 _ h)).mono (by omega),?_⟩
  generalize amV [1,0,4] c4=q at d6
  refine aZ Tryz.func116 rfl Tryz.ntmps116 aQ (fun _ _=>by kernel_rfl) rfl rfl rfl ?_
  intro M0 w0 S φ0
  rw [Tryz.results116]
  refine ah ?_
  (refine .inr (.inl (aJ [0] (d1) rfl rfl rfl rfl ⟨rfl,trivial⟩ rfl rfl rfl rfl ?_));refine amC ?_)
  (refine .inr (.inl (aJ [0] (d2) rfl rfl rfl rfl ⟨rfl,trivial⟩ rfl rfl rfl rfl ?_));refine amC ?_)
  ((try refine Or.inl ?_);refine ⟨_,(d3),.inl rfl,?_⟩;refine amC ?_)
  refine ah ?_
  (refine .inr (.inr (jG [0] (d4) (by first | rfl | (simp only [xr,simprocAttr];done)) rfl rfl rfl ⟨rfl,trivial⟩ rfl rfl rfl rfl ?_));refine amC ?_)
  refine ah ?_
  refine aj amQ (fun h2 =>?_) (fun h2 =>?_)
  ·refine ah ?_
   (refine .inr (.inl (aJ [0] (d5) rfl rfl rfl rfl ⟨rfl,trivial⟩ rfl rfl rfl rfl ?_));refine amC ?_)
   (refine .inr (.inl (aJ [0] (d6) rfl rfl rfl rfl ⟨rfl,trivial⟩ rfl rfl rfl rfl ?_));refine amC ?_)
   refine ah ?_
   (simp only [aC,aH];refine bf [0] rfl ⟨rfl,trivial⟩ rfl rfl rfl rfl ⟨amK,rfl⟩ ?_;try rfl)
  ·simp at h2
 ·rw [decide_eq_false h1] at d4
  refine ⟨a,pkC 24 c2,fun _ h=>(b3 _ h).mono (by omega),?_⟩
  generalize pkC 24 c2=c3 at d4
  refine aZ Tryz.func116 rfl Tryz.ntmps116 aQ (fun _ _=>by kernel_rfl) rfl rfl rfl ?_
  intro M0 w0 S φ0
  rw [Tryz.results116]
  refine ah ?_
  (refine .inr (.inl (aJ [0] (d1) rfl rfl rfl rfl ⟨rfl,trivial⟩ rfl rfl rfl rfl ?_));refine amC ?_)
  (refine .inr (.inl (aJ [0] (d2) rfl rfl rfl rfl ⟨rfl,trivial⟩ rfl rfl rfl rfl ?_));refine amC ?_)
  ((try refine Or.inl ?_);refine ⟨_,(d3),.inl rfl,?_⟩;refine amC ?_)
  refine ah ?_
  (refine .inr (.inr (jG [0] (d4) (by first | rfl | (simp only [xr,simprocAttr];done)) rfl rfl rfl ⟨rfl,trivial⟩ rfl rfl rfl rfl ?_));refine amC ?_)
  refine ah ?_
  refine aj amQ (fun h2 =>?_) (fun h2 =>?_)
  ·simp at h2
  ·refine ah ?_
   (simp only [aC,aH];refine bf [0] rfl ⟨rfl,trivial⟩ rfl rfl rfl rfl ⟨amK,rfl⟩ ?_;try rfl)
theorem LP {m s:List (List Int)} {c:Cu} (hc:bn 999999999000 c):∃ x c',(∀ m0,bn m0 c->bn (m0+4) c')/\bP Tryz.prog 111 [.lf (.ptr 0 0),.tv (.agg [.b (.sl (.ii m)),.b (.sl (.ii s))])] [true] [eu c] (.int x) [eu c']:=by
 by_cases h0:(m.length:Int)=0
 ·refine ⟨amV [-1,m.length] c,aqC [-1,m.length] c,fun m0 h=>(dZ h).mono (by omega),?_⟩
  refine aZ Tryz.func111 rfl Tryz.ntmps111 aQ (fun _ _=>by kernel_rfl) rfl rfl rfl ?_
  intro M0 w0 S φ0
  rw [Tryz.results111]
  refine ah ?_
  rw [decide_eq_true h0]
  (refine .inr (.inr (xH (.bool false) (by first | rfl | (simp only [xr,simprocAttr];done)) rfl ?_));refine amC ?_)
  refine ah ?_
  refine aj amQ (fun hb =>?_) (fun hb =>?_)
  ·refine ah ?_
   (refine .inr (.inl (aJ [0] (dF (xs:=[-1,m.length]) (hc.mono (by omega)) (by simp)) rfl rfl rfl rfl ⟨rfl,trivial⟩ rfl rfl rfl rfl ?_));refine amC ?_)
   refine ah ?_
   (simp only [aC,aH];refine bf [0] rfl ⟨rfl,trivial⟩ rfl rfl rfl rfl rfl ?_;try rfl)
  ·simp at hb
 ·by_cases h1:pkV 20 c=0
  ·have hc1:=aV (n:=20) hc
   refine ⟨amV [-1,m.length] (pkC 20 c),aqC [-1,m.length] (pkC 20 c),fun m0 h=>(dZ (aV h)).mono (by omega),?_⟩
   refine aZ Tryz.func111 rfl Tryz.ntmps111 aQ (fun _ _=>by kernel_rfl) rfl rfl rfl ?_
   intro M0 w0 S φ0
   rw [Tryz.results111]
   refine ah ?_
   rw [decide_eq_false h0]
   (refine .inr (.inr (jG [0] (sS (n:=20) (hc.mono (by omega))) (by first | rfl | (simp only [xr,simprocAttr];done)) rfl rfl rfl ⟨rfl,trivial⟩ rfl rfl rfl rfl ?_));refine amC ?_)
   rw [decide_eq_true h1]
   refine ah ?_
   refine aj amQ (fun hb =>?_) (fun hb =>?_)
   ·refine ah ?_
    (refine .inr (.inl (aJ [0] (dF (xs:=[-1,m.length]) (hc1.mono (by omega)) (by simp)) rfl rfl rfl rfl ⟨rfl,trivial⟩ rfl rfl rfl rfl ?_));refine amC ?_)
    refine ah ?_
    (simp only [aC,aH];refine bf [0] rfl ⟨rfl,trivial⟩ rfl rfl rfl rfl rfl ?_;try rfl)
   ·simp at hb
  ·have hc1:=aV (n:=20) hc
   refine ⟨pkV m.length (pkC 20 c),pkC m.length (pkC 20 c),fun m0 h=>(aV (aV h)).mono (by omega),?_⟩
   refine aZ Tryz.func111 rfl Tryz.ntmps111 aQ (fun _ _=>by kernel_rfl) rfl rfl rfl ?_
   intro M0 w0 S φ0
   rw [Tryz.results111]
   refine ah ?_
   rw [decide_eq_false h0]
   (refine .inr (.inr (jG [0] (sS (n:=20) (hc.mono (by omega))) (by first | rfl | (simp only [xr,simprocAttr];done)) rfl rfl rfl ⟨rfl,trivial⟩ rfl rfl rfl rfl ?_));refine amC ?_)
   rw [decide_eq_false h1]
   refine ah ?_
   refine aj amQ (fun hb =>?_) (fun hb =>?_)
   ·simp at hb
   ·refine ah ?_
    (refine .inr (.inl (aJ [0] (iy (n:=m.length) (hc1.mono (by omega))) rfl rfl rfl rfl ⟨rfl,trivial⟩ rfl rfl rfl rfl ?_));refine amC ?_)
    refine ah ?_
    (simp only [aC,aH];refine bf [0] rfl ⟨rfl,trivial⟩ rfl rfl rfl rfl rfl ?_;try rfl)
end Go.Proofs.YtnblieajjclipaaGreat
