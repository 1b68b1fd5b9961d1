/- Choices of games on the machine: small facts. Conditions: games that are whole. -/
import Derived.Test.YtkcelmnbfbehbaaGreatGB
import Derived.Test.YtkcelmnbfbehbaaGreatZOB
set_option linter.all false
namespace Go.Proofs.YtkcelmnbfbehbaaGreat
open Go Go.RowKit Am
theorem jK {α β:Type} {f:α->β} {xs:List α} {k:Nat} (h:k<xs.length) (d:α) (d':β):(xs.map f).getD k d'=f (xs.getD k d):=by simp [h]
theorem y9 {ch:List (List (List (List Int)))} {i:Nat} (h:i<ch.length):(ch4 ch).getD i []=(ch.getD i []).map fun r=>r.map c4:=jK h [] []
theorem AO {ch:List (List (List (List Int)))} {i r:Nat} (h:i<ch.length) (hr:r<(ch.getD i []).length):((ch4 ch).getD i []).getD r []=((ch.getD i []).getD r []).map c4:=by
 rw [y9 h]
 exact jK hr [] []
theorem UK {m s:List (List Int)} {y:Nat} (h:bn m s y []=true):gmQ m s y=gm m s y:=by unfold gmQ;rw [h,Int.toNat_natCast];rfl
theorem zu {m s:List (List Int)} {x:Int} (h:(gmQ m s x).2=false):bn m s x []=true:=by
 cases e:bn m s x []
 ·rw [Ia e] at h;cases h
 ·rfl
theorem xU {m s:List (List Int)} {x:Int} (h:(gmQ m s x).2=false):dD m s (gmQ m s x).1:=by
 have ht:=zu h
 obtain ⟨hp,⟨y,rfl,hy⟩,-,-⟩:=iK ht
 rw [UK ht] at h ⊢
 exact X5 hp hy h
theorem JW {m s:List (List Int)} {x:Int} (h:(gmQ m s x).2=false):bG Tryz.prog 35 [prA m s,.int x] [] [] (.tup [.one (.ptr 0 0),.one (.b (.val (.bool true)))]) [.box [.own 1,.own 2],.row 145 (.k 2 (gmQ m s x).1.list),.row 82 (.kii 6 (gmQ m s x).1.ch)]:=by
 have:=JX m s x
 unfold gmR gmO at this
 rw [h] at this
 exact this
theorem JV {m s:List (List Int)} {x:Int} (h:(gmQ m s x).2=true):bG Tryz.prog 35 [prA m s,.int x] [] [] (.tup [.one (.b (.val (.pointer none))),.one (.b (.val (.bool false)))]) []:=by
 have:=JX m s x
 unfold gmR gmO at this
 rw [h] at this
 exact this
abbrev six (c:List Int):AV := .tv (.agg [.b (.val (.int .i64 (c.getD 0 0))),.b (.val (.int .i64 (c.getD 1 0))),.b (.val (.int .i64 (c.getD 2 0))),.b (.val (.int .i64 (c.getD 3 0))),.b (.val (.int .i64 (c.getD 4 0))),.b (.val (.int .i64 (c.getD 5 0)))])
theorem Ya (xs:List (List Int)) (K:Nat) (caps:List Lf) (p:List Int->Bool) (hcap:caps.all xE=true) (hK:∀ j,j<xs.length->Does Tryz.prog K (six (xs.getD j [])::caps.map fun y => .tv (.one y)) (.imm (.bool (p (xs.getD j []))))) :
  Does Tryz.prog 41 [.sl (.k 6 xs),.clo K caps] (.imm (.int (idxOf p xs))):=by
 refine aC Tryz.func41 rfl Tryz.ntmps41 aX (fun _ _=>by kernel_rfl) (by simp only [List.all_cons,List.all_nil,xG hcap];rfl) (Nat.le_of_ble_eq_true rfl) ?_
 intro M0 w0
 rw [Tryz.results41]
 (refine dJ 0 rfl fun hf =>?_;simp only [xp,simprocAttr] at hf;simp only [xf,simprocAttr] at hf)
 refine ah ?_
 refine au (α:=Nat) (fun k=>[(8,true,.int k)]) [0,1,6,7] (fun _=>[]) (fun k=>k<=xs.length/\∀ x∈xs.take k,p x=false) (fun k=>xs.length-k) 0 (by exact dQ) ⟨Nat.zero_le _,by simp⟩ fun k hk =>?_
 obtain ⟨hk,hp⟩:=hk
 simp only [xr,simprocAttr]
 refine ah ?_
 refine aj amQ (fun hc =>?_) (fun hc =>?_)
 ·have hk':k<xs.length:=by simpa using hc
  have hx:xs.getD k []=xs[k]:=by simp [hk']
  refine ah ?_
  (simp only [xr,simprocAttr,qj hcap];refine amS ?_)
  ((try refine Or.inl ?_);refine ⟨_,(hK k hk'),.inl rfl,?_⟩;refine amC ?_)
  refine ah ?_
  refine aj amQ (fun hd =>?_) (fun hd =>?_)
  ·refine ah ?_
   refine bV ?_
   rw [hx] at hd
   rw [fZ hk' hd hp]
  ·refine ah ?_
   refine ⟨k+1,by omega,fun x hx' =>?_,by omega,.inl ?_⟩
   ·rw [List.take_succ_eq_append_getElem hk',List.mem_append,List.mem_singleton] at hx'
    rcases hx' with hx' | rfl
    ·exact hp x hx'
    ·rw [← hx];exact hd
   ·exact dQ
 ·have hk':k=xs.length:=by simp at hc;omega
  subst hk'
  rw [List.take_length] at hp
  refine ah ?_
  refine bV ?_
  rw [gW hp]
abbrev gA (g:GmT) (b:Bool):AV := .tv (.agg [.b (.sl (.k 2 g.list)),.b (.sl (.kii 4 (ch4 g.ch))),.b (.val (.bool b))])
abbrev gI (g:GmT):AV := .lf (.ip [.sl (.k 2 g.list),.sl (.kii 6 g.ch)] 0)
def zM (a:Int×Int):Bool:=frB a.1 a.2 && decide (0<=a.1)
theorem WA {a:Int×Int} (h:zM a=true):0<=a.1/\a.1<=100000000/\1<=a.2/\a.2<=100000:=by
 unfold zM at h
 rw [Bool.and_eq_true,qM,decide_eq_true_eq] at h
 obtain ⟨⟨h1,h2,h3,h4,-⟩,h5⟩:=h
 exact ⟨h5,h4,h1,h2⟩
abbrev four (c:List Int):AV := .tv (.agg [.b (.val (.int .i64 (c.getD 0 0))),.b (.val (.int .i64 (c.getD 1 0))),.b (.val (.int .i64 (c.getD 2 0))),.b (.val (.int .i64 (c.getD 3 0)))])
theorem Yg (a:Int×Int):Does Tryz.prog 47 [frA a] (.imm (frA (a.2,a.1))):=by
 refine aC Tryz.func47 rfl Tryz.ntmps47 aX (fun _ _=>by kernel_rfl) rfl (Nat.le_of_ble_eq_true rfl) ?_
 intro M0 w0
 rw [Tryz.results47]
 refine ah ?_
 (simp only [xec,simprocAttr];refine ⟨_,⟨amK,rfl⟩,rfl,Imp.eq ?_⟩)
 rfl
theorem Q5 (c:List Int) (a:Int×Int) (h1:0<=a.2*c.getD 2 0) (h2:a.2*c.getD 2 0<=1000000000000000) (h3:0<=a.1*c.getD 3 0) (h4:a.1*c.getD 3 0<=1000000000000000):Does Tryz.prog 102 [frA (a.2,a.1),four (c4 c)] (.imm (.int (eX a.1 a.2 c))):=by
 have e1:(c4 c).getD 2 0=c.getD 2 0:=rfl
 have e2:(c4 c).getD 3 0=c.getD 3 0:=rfl
 rw [← e1] at h1 h2
 rw [← e2] at h3 h4
 refine aC Tryz.func102 rfl Tryz.ntmps102 aX (fun _ _=>by kernel_rfl) rfl (Nat.le_of_ble_eq_true rfl) ?_
 intro M0 w0
 rw [Tryz.results102]
 refine ah ?_
 refine bV ?_
 rfl
theorem Zd {m s:List (List Int)} {n i r:Nat} {row:List (List Int)} (h:zZ m s n i r row) {k:Nat} (hk:k<row.length):HY m n i r (row.getD k []):=h.el _ (by rw [getD_in hk];exact List.getElem_mem hk)
end Go.Proofs.YtkcelmnbfbehbaaGreat
