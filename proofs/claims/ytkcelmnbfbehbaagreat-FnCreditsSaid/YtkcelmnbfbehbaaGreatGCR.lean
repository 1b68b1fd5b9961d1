/- Choices of games on the machine: small facts. Conditions: games that are whole. -/
import Derived.Test.YtkcelmnbfbehbaaGreatGB
set_option linter.all false
namespace Go.Proofs.YtkcelmnbfbehbaaGreat
open Go Go.RowKit Am
abbrev bT (b:Bool):TV := .one (.b (.val (.bool b)))
theorem iC {α β:Type} {f:α->β} {xs:List α} {k:Nat} (h:k<xs.length) (d:α) (d':β):(xs.map f).getD k d'=f (xs.getD k d):=by simp [h]
theorem jV {ch:List (List (List (List Int)))} {i:Nat} (h:i<ch.length):(ch4 ch).getD i []=(ch.getD i []).map fun r=>r.map c4:=iC h [] []
theorem lV {ch:List (List (List (List Int)))} {i r:Nat} (h:i<ch.length) (hr:r<(ch.getD i []).length):((ch4 ch).getD i []).getD r []=((ch.getD i []).getD r []).map c4:=by
 rw [jV h]
 exact iC hr [] []
theorem TK {α:Type} {p:α->Bool} {xs:List α} {i:Nat} (hi:i<xs.length) (d:α) (h:p (xs.getD i d)=false):xs.all p=false:=by
 rw [Bool.eq_false_iff]
 intro e
 have:=List.all_eq_true.1 e (xs.getD i d) (by rw [getD_in hi];exact List.getElem_mem hi)
 rw [h] at this
 cases this
theorem Nw {m s:List (List Int)} {y:Nat} (h:bH m s y []=true):gmQ m s y=gm m s y:=by unfold gmQ;rw [h,Int.toNat_natCast];rfl
theorem iJ {m s:List (List Int)} {x:Int} (h:(gmQ m s x).2=false):bH m s x []=true:=by
 cases e:bH m s x []
 ·rw [Iz e] at h;cases h
 ·rfl
theorem dS {m s:List (List Int)} {x:Int} (h:(gmQ m s x).2=false):bf m s (gmQ m s x).1:=by
 have ht:=iJ h
 obtain ⟨hp,⟨y,rfl,hy⟩,-,-⟩:=nZ ht
 rw [Nw ht] at h ⊢
 exact X7 hp hy h
theorem kW {m s:List (List Int)} {x:Int} (h:(gmQ m s x).2=false):bJ Tryz.prog 35 [prA m s,.int x] [] [] (.tup [.one (.ptr 0 0),.one (.b (.val (.bool true)))]) [.box [.own 1,.own 2],.row 145 (.k 2 (gmQ m s x).1.list),.row 82 (.kii 6 (gmQ m s x).1.ch)]:=by
 have:=Kw m s x
 unfold gmR gmO at this
 rw [h] at this
 exact this
theorem sU {m s:List (List Int)} {x:Int} (h:(gmQ m s x).2=true):bJ Tryz.prog 35 [prA m s,.int x] [] [] (.tup [.one (.b (.val (.pointer none))),.one (.b (.val (.bool false)))]) []:=by
 have:=Kw m s x
 unfold gmR gmO at this
 rw [h] at this
 exact this
abbrev six (c:List Int):AV := .tv (.agg [.b (.val (.int .i64 (c.getD 0 0))),.b (.val (.int .i64 (c.getD 1 0))),.b (.val (.int .i64 (c.getD 2 0))),.b (.val (.int .i64 (c.getD 3 0))),.b (.val (.int .i64 (c.getD 4 0))),.b (.val (.int .i64 (c.getD 5 0)))])
theorem qQ (xs:List (List Int)) (K:Nat) (caps:List Lf) (p:List Int->Bool) (hcap:caps.all sN=true) (hK:∀ j,j<xs.length->Does Tryz.prog K (six (xs.getD j [])::caps.map fun y => .tv (.one y)) (.imm (.bool (p (xs.getD j []))))) :
  Does Tryz.prog 41 [.sl (.k 6 xs),.clo K caps] (.imm (.int (idxOf p xs))):=by
 refine aF Tryz.func41 rfl Tryz.ntmps41 aP (fun _ _=>by kernel_rfl) (by simp only [List.all_cons,List.all_nil,pY hcap];rfl) (Nat.le_of_ble_eq_true rfl) ?_
 intro M0 w0
 rw [Tryz.results41]
 (refine dB 0 rfl fun hf =>?_;simp only [xp,simprocAttr] at hf;simp only [xf,simprocAttr] at hf)
 refine ah ?_
 refine aA (α:=Nat) (fun k=>[(8,true,.int k)]) [0,1,6,7] (fun _=>[]) (fun k=>k<=xs.length/\∀ x∈xs.take k,p x=false) (fun k=>xs.length-k) 0 (by exact bY) ⟨Nat.zero_le _,by simp⟩ fun k hk =>?_
 obtain ⟨hk,hp⟩:=hk
 simp only [xr,simprocAttr]
 refine ah ?_
 refine aj amQ (fun hc =>?_) (fun hc =>?_)
 ·have hk':k<xs.length:=by simpa using hc
  have hx:xs.getD k []=xs[k]:=by simp [hk']
  refine ah ?_
  (simp only [xr,simprocAttr,jU hcap];refine amS ?_)
  ((try refine Or.inl ?_);refine ⟨_,(hK k hk'),.inl rfl,?_⟩;refine amC ?_)
  refine ah ?_
  refine aj amQ (fun hd =>?_) (fun hd =>?_)
  ·refine ah ?_
   refine bI ?_
   rw [hx] at hd
   rw [gK hk' hd hp]
  ·refine ah ?_
   refine ⟨k+1,by omega,fun x hx' =>?_,by omega,.inl ?_⟩
   ·rw [List.take_succ_eq_append_getElem hk',List.mem_append,List.mem_singleton] at hx'
    rcases hx' with hx' | rfl
    ·exact hp x hx'
    ·rw [← hx];exact hd
   ·exact bY
 ·have hk':k=xs.length:=by simp at hc;omega
  subst hk'
  rw [List.take_length] at hp
  refine ah ?_
  refine bI ?_
  rw [gJ hp]
abbrev gA (g:GmT) (b:Bool):AV := .tv (.agg [.b (.sl (.k 2 g.list)),.b (.sl (.kii 4 (ch4 g.ch))),.b (.val (.bool b))])
abbrev gI (g:GmT):AV := .lf (.ip [.sl (.k 2 g.list),.sl (.kii 6 g.ch)] 0)
def iD (a:Int×Int):Bool:=frB a.1 a.2 && decide (0<=a.1)
theorem ER {a:Int×Int} (h:iD a=true):0<=a.1/\a.1<=100000000/\1<=a.2/\a.2<=100000:=by
 unfold iD at h
 rw [Bool.and_eq_true,lX,decide_eq_true_eq] at h
 obtain ⟨⟨h1,h2,h3,h4,-⟩,h5⟩:=h
 exact ⟨h5,h4,h1,h2⟩
theorem Vj (n d:Int):Does Tryz.prog 94 [frA (n,d)] (.imm (.bool (frB n d))) :=
 qg (v := .bool (frB n d)) (fun _ _=>by kernel_rfl) fun M w us hm ha=>by
  obtain ⟨u,us',rfl,k1,k2⟩:=dZ ha
  obtain rfl:=jw k2
  obtain ⟨a,b,rfl,h1,h2⟩:=En k1
  obtain rfl:a = .int .i64 n:=h1
  obtain rfl:b = .int .i64 d:=h2
  exact NC w n d
theorem Vp (n d:Int):Does Tryz.prog 99 [frA (n,d)] (.imm (.bool (frB n d))) :=
 qg (v := .bool (frB n d)) (fun _ _=>by kernel_rfl) fun M w us hm ha=>by
  obtain ⟨u,us',rfl,k1,k2⟩:=dZ ha
  obtain rfl:=jw k2
  obtain ⟨a,b,rfl,h1,h2⟩:=En k1
  obtain rfl:a = .int .i64 n:=h1
  obtain rfl:b = .int .i64 d:=h2
  exact wK w n d
theorem ql (a:Int×Int):Does Tryz.prog 36 [frA a] (.imm (.bool (iD a))):=by
 refine aF Tryz.func36 rfl Tryz.ntmps36 aP (fun _ _=>by kernel_rfl) rfl (Nat.le_of_ble_eq_true rfl) ?_
 intro M0 w0
 rw [Tryz.results36]
 refine ah ?_
 ((try refine Or.inl ?_);refine ⟨_,(Vj a.1 a.2),.inl rfl,?_⟩;refine amC ?_)
 refine ah ?_
 refine bI ?_
 show AV.bool _=AV.bool _
 simp only [Bool.cond_false_right]
 rfl
theorem zX (a:Int×Int):Does Tryz.prog 39 [frA a] (.imm (.bool (iD a))):=by
 refine aF Tryz.func39 rfl Tryz.ntmps39 aP (fun _ _=>by kernel_rfl) rfl (Nat.le_of_ble_eq_true rfl) ?_
 intro M0 w0
 rw [Tryz.results39]
 refine ah ?_
 ((try refine Or.inl ?_);refine ⟨_,(Vp a.1 a.2),.inl rfl,?_⟩;refine amC ?_)
 refine ah ?_
 refine bI ?_
 show AV.bool _=AV.bool _
 simp only [Bool.cond_false_right]
 rfl
theorem JO (x n:Int) (hn : -9223372036854775807<=n/\n<=9223372036854775807):Does Tryz.prog 156 [.int x,.lf (.ip [.val (.int .i64 n)] 0)] (.imm (.bool (!rng x 0 (n-1)))):=by
 refine aF Tryz.func156 rfl Tryz.ntmps156 aP (fun _ _=>by kernel_rfl) rfl (Nat.le_of_ble_eq_true rfl) ?_
 intro M0 w0
 rw [Tryz.results156]
 refine ah ?_
 ((try refine Or.inl ?_);refine ⟨_,(Me _ _ _),.inl rfl,?_⟩;refine amC ?_)
 refine ah ?_
 refine bI ?_
 rfl
theorem ML (n:Int) (xs:List Int) (hn : -9223372036854775807<=n/\n<=9223372036854775807):Does Tryz.prog 114 [.int n,.sl (.ints xs)] (.imm (.bool (allIn 0 (n-1) xs))):=by
 refine aF Tryz.func114 rfl Tryz.ntmps114 aP (fun _ _=>by kernel_rfl) rfl (Nat.le_of_ble_eq_true rfl) ?_
 intro M0 w0
 rw [Tryz.results114]
 refine ah ?_
 ((try refine Or.inl ?_);refine ⟨_,(BM xs _ [.ip [.val (.int .i64 n)] 0] (fun x => !rng x 0 (n-1)) rfl fun j hj=>JO _ n hn),.inl rfl,?_⟩;refine amC ?_)
 refine ah ?_
 refine bI ?_
 show AV.bool _=AV.bool _
 congr 1
 rw [List.not_any_eq_all_not]
 simp [allIn]
def tbB (n:Nat) (tab:List Int):Bool:=(tab.length == n) && allIn 0 1000000000000000 tab
theorem Ij (tab:List Int) (k:Nat) (hk:k<=1000):Does Tryz.prog 95 [.sl (.ints tab),.int k] (.imm (.bool (tbB k tab))):=by
 refine aF Tryz.func95 rfl Tryz.ntmps95 aP (fun _ _=>by kernel_rfl) rfl (Nat.le_of_ble_eq_true rfl) ?_
 intro M0 w0
 rw [Tryz.results95]
 (refine dB 0 rfl fun hf =>?_;simp only [xp,simprocAttr] at hf;simp only [xf,simprocAttr] at hf)
 refine ah ?_
 ((try refine Or.inl ?_);refine ⟨_,(fun _=>ML 1000000000000001 tab (by omega)),.inl rfl,?_⟩;refine amC ?_)
 refine ah ?_
 refine bI ?_
 show AV.bool _=AV.bool _
 simp only [Bool.cond_false_right,Iq]
 rfl
abbrev four (c:List Int):AV := .tv (.agg [.b (.val (.int .i64 (c.getD 0 0))),.b (.val (.int .i64 (c.getD 1 0))),.b (.val (.int .i64 (c.getD 2 0))),.b (.val (.int .i64 (c.getD 3 0)))])
theorem U6 (c:List Int) (a:Int×Int) (h1:0<=a.2*c.getD 2 0) (h2:a.2*c.getD 2 0<=1000000000000000) (h3:0<=a.1*c.getD 3 0) (h4:a.1*c.getD 3 0<=1000000000000000):Does Tryz.prog 101 [four c,frA a] (.imm (.int (cO a.1 a.2 c))):=by
 refine aF Tryz.func101 rfl Tryz.ntmps101 aP (fun _ _=>by kernel_rfl) rfl (Nat.le_of_ble_eq_true rfl) ?_
 intro M0 w0
 rw [Tryz.results101]
 refine ah ?_
 refine bI ?_
 rfl
theorem Ce (a:Int×Int):Does Tryz.prog 47 [frA a] (.imm (frA (a.2,a.1))):=by
 refine aF Tryz.func47 rfl Tryz.ntmps47 aP (fun _ _=>by kernel_rfl) rfl (Nat.le_of_ble_eq_true rfl) ?_
 intro M0 w0
 rw [Tryz.results47]
 refine ah ?_
 (simp only [xec,simprocAttr];refine ⟨_,⟨amK,rfl⟩,rfl,Imp.eq ?_⟩)
 rfl
theorem zV (c:List Int) (a:Int×Int) (h1:0<=a.2*c.getD 2 0) (h2:a.2*c.getD 2 0<=1000000000000000) (h3:0<=a.1*c.getD 3 0) (h4:a.1*c.getD 3 0<=1000000000000000):Does Tryz.prog 102 [frA (a.2,a.1),four (c4 c)] (.imm (.int (cO a.1 a.2 c))):=by
 have e1:(c4 c).getD 2 0=c.getD 2 0:=rfl
 have e2:(c4 c).getD 3 0=c.getD 3 0:=rfl
 rw [← e1] at h1 h2
 rw [← e2] at h3 h4
 refine aF Tryz.func102 rfl Tryz.ntmps102 aP (fun _ _=>by kernel_rfl) rfl (Nat.le_of_ble_eq_true rfl) ?_
 intro M0 w0
 rw [Tryz.results102]
 refine ah ?_
 refine bI ?_
 rfl
structure H7 (a:Int×Int) (tab:List Int) (i:Nat) (c:List Int):Prop where
 fr:c.getD 0 0=i
 to:c.getD 1 0=(toC c:Int)
 il:i<tab.length
 tl:toC c<tab.length
 i0:0<=tab.getD i 0/\tab.getD i 0<=1000000000000000
 t0:0<=tab.getD (toC c) 0/\tab.getD (toC c) 0<=1000000000000000
 g1:0<=a.2*c.getD 2 0
 g2:a.2*c.getD 2 0<=119000000000
 g3:0<=a.1*c.getD 3 0
 g4:a.1*c.getD 3 0<=100000000000000
 r0:0<=c.getD 3 0/\c.getD 3 0<=100000
theorem Xl {n:Nat} {tab:List Int} (h:tbB n tab=true) {j:Nat} (hj:j<n):j<tab.length/\0<=tab.getD j 0/\tab.getD j 0<=1000000000000000:=by
 unfold tbB at h
 rw [Bool.and_eq_true,beq_iff_eq,pU] at h
 have hj':j<tab.length:=by omega
 have:=h.2 (tab.getD j 0) (by rw [getD_in hj'];exact List.getElem_mem hj')
 exact ⟨hj',this⟩
theorem Ie {m:List (List Int)} {n i r:Nat} {c:List Int} (hc:DK m n i r c) {a:Int×Int} (ha:iD a=true) {tab:List Int} (ht:tbB n tab=true) (hi:i<n):H7 a tab i c:=by
 have h1:=ER ha
 obtain ⟨k1,k2,k3,_,_,k6,k7,k8,k9,k10,k11⟩:=Cc hc (num:=a.1) (den:=a.2) (by omega) (by omega) (by omega) (by omega)
 have h2:=Xl ht hi
 have h3:=Xl ht k1
 exact ⟨k3,k2,h2.1,h3.1,h2.2,h3.2,k8,k9,k10,k11,k6,k7⟩
theorem JJ {a:Int×Int} {tab:List Int} {i:Nat} {c:List Int} (h:H7 a tab i c):Does Tryz.prog 43 [six c,frA a,.sl (.ints tab)] (.imm (.bool (dP a.1 a.2 tab i c))):=by
 obtain ⟨h1,h2,h3,h4,h5,h6,h7,h8,h9,h10,h11⟩:=h
 have hg:cO a.1 a.2 c=a.2*c.getD 2 0-a.1*c.getD 3 0:=rfl
 have e1:tab.getD (c.getD 1 0).toNat 0=tab.getD (toC c) 0:=rfl
 have e2:tab.getD (c.getD 0 0).toNat 0=tab.getD i 0:=by rw [h1,Int.toNat_natCast]
 refine aF Tryz.func43 rfl Tryz.ntmps43 aP (fun _ _=>by kernel_rfl) rfl (Nat.le_of_ble_eq_true rfl) ?_
 intro M0 w0
 rw [Tryz.results43]
 (refine dB 2 rfl fun hf =>?_;simp only [xp,simprocAttr] at hf;simp only [xf,simprocAttr] at hf)
 refine ah ?_
 ((try refine Or.inl ?_);refine ⟨_,(U6 c a h7 (by omega) h9 (by omega)),.inl rfl,?_⟩;refine amC ?_)
 refine ah ?_
 refine bI ?_
 unfold dP
 rw [← e2]
 rfl
theorem BK (xs:List (List Int)) (K:Nat) (caps:List Lf) (p:List Int->Bool) (hcap:caps.all sN=true) (hK:∀ j,j<xs.length->Does Tryz.prog K (six (xs.getD j [])::caps.map fun y => .tv (.one y)) (.imm (.bool (p (xs.getD j []))))) :
  Does Tryz.prog 96 [.sl (.k 6 xs),.clo K caps] (.imm (.bool (xs.any p))):=by
 refine aF Tryz.func96 rfl Tryz.ntmps96 aP (fun _ _=>by kernel_rfl) (by simp only [List.all_cons,List.all_nil,pY hcap];rfl) (Nat.le_of_ble_eq_true rfl) ?_
 intro M0 w0
 rw [Tryz.results96]
 refine ah ?_
 (simp only [xr,simprocAttr,jU hcap];refine amS ?_)
 ((try refine Or.inl ?_);refine ⟨_,(qQ xs K caps p hcap hK),.inl rfl,?_⟩;refine amC ?_)
 refine ah ?_
 refine bI ?_
 rw [jy]
theorem KE {a:Int×Int} {tab:List Int} {i:Nat} {c:List Int} (h:H7 a tab i c):Does Tryz.prog 97 [six c,.lf (.ip [.val (.int .i64 a.1),.val (.int .i64 a.2)] 0),.lf (.ip [.sl (.ints tab)] 0)] (.imm (.bool (dP a.1 a.2 tab i c))):=by
 refine aF Tryz.func97 rfl Tryz.ntmps97 aP (fun _ _=>by kernel_rfl) rfl (Nat.le_of_ble_eq_true rfl) ?_
 intro M0 w0
 rw [Tryz.results97]
 refine ah ?_
 ((try refine Or.inl ?_);refine ⟨_,(JJ h),.inl rfl,?_⟩;refine amC ?_)
 refine ah ?_
 refine bI ?_
 rfl
theorem iQ {g:GmT} {num den:Int} {tab:List Int}:gU g num den tab=true↔vg g tab=true/\∀ i,i<g.ch.length->∀ r,r<(g.ch.getD i []).length->((g.ch.getD i []).getD r []).any (dP num den tab i)=true:=by
 unfold gU
 rw [Bool.and_eq_true,List.all_eq_true]
 refine and_congr_right fun _=>⟨fun h i hi r hr =>?_,fun h i hi =>?_⟩
 ·have h1:=List.all_eq_true.1 (h i (List.mem_range.2 hi)) ((g.ch.getD i []).getD r []) (by rw [getD_in hr];exact List.getElem_mem hr)
  exact h1
 ·rw [List.mem_range] at hi
  refine List.all_eq_true.2 fun row hrow =>?_
  obtain ⟨r,hr,rfl⟩:=List.getElem_of_mem hrow
  have h1:=h i hi r hr
  rwa [getD_in hr] at h1
theorem Dz {g:GmT} {num den:Int} {tab:List Int} {i r:Nat} (hi:i<g.ch.length) (hr:r<(g.ch.getD i []).length) (h:((g.ch.getD i []).getD r []).any (dP num den tab i)=false):gU g num den tab=false:=by
 rw [Bool.eq_false_iff]
 intro e
 have:=(iQ.1 e).2 i hi r hr
 rw [h] at this
 cases this
theorem Je {m s:List (List Int)} {g:GmT} (hg:bf m s g) {i r:Nat} (hi:i<g.ch.length) (hr:r<(g.ch.getD i []).length):sH m s g.list.length i r ((g.ch.getD i []).getD r [])/\i<g.list.length/\r<s.length:=by
 have h1:=hg.c.len i hi
 have h2:=hg.clen
 exact ⟨hg.c.row i r hi (by omega),by omega,by omega⟩
theorem Bc {m s:List (List Int)} {n i r:Nat} {row:List (List Int)} (h:sH m s n i r row) {k:Nat} (hk:k<row.length):DK m n i r (row.getD k []):=h.el _ (by rw [getD_in hk];exact List.getElem_mem hk)
theorem wJ {m s:List (List Int)} {g:GmT} (hg:bf m s g) {a:Int×Int} (ha:iD a=true) (tab:List Int):Does Tryz.prog 37 [gI g,frA a,.sl (.ints tab)] (.imm (.bool (gU g a.1 a.2 tab))):=by
 have hle:=hg.le
 have hcl:=hg.clen
 refine aF Tryz.func37 rfl Tryz.ntmps37 aP (fun _ _=>by kernel_rfl) rfl (Nat.le_of_ble_eq_true rfl) ?_
 intro M0 w0
 rw [Tryz.results37]
 refine ah ?_
 ((try refine Or.inl ?_);refine ⟨_,(Ij tab g.list.length (by omega)),.inl rfl,?_⟩;refine amC ?_)
 refine ah ?_
 cases ht:tbB g.list.length tab
 ·refine aj amQ (fun hc =>?_) (fun hc =>?_)
  ·refine ah ?_
   refine bI ?_
   have h1:vg g tab=false:=ht
   unfold gU
   rw [h1]
   rfl
  ·cases hc
 refine aj amQ (fun hc =>?_) (fun hc =>?_)
 ·cases hc
 refine ah ?_
 refine aA (α:=Nat) (fun i=>[(24,true,.int i)]) [4,5,22,23] (fun _=>[.box [.b (.val (.int .i64 a.1)),.b (.val (.int .i64 a.2))],.box [.b (.sl (.ints tab))]]) (fun i=>i<=g.ch.length/\∀ j,j<i->∀ r,r<(g.ch.getD j []).length->((g.ch.getD j []).getD r []).any (dP a.1 a.2 tab j)=true) (fun i=>g.ch.length-i) 0 (by exact bY) ⟨Nat.zero_le _,fun j hj=>by omega⟩ fun i hi =>?_
 obtain ⟨hi,hal⟩:=hi
 simp only [xr,simprocAttr]
 refine ah ?_
 refine aj amQ (fun hd =>?_) (fun hd =>?_)
 ·have hd:=of_decide_eq_true hd
  have hi':i<g.ch.length:=by omega
  have hrl:=hg.c.len i hi'
  have hpl:=bC hg.prob
  refine ah ?_
  refine aA (α:=Nat) (fun r=>[(30,true,.int r)]) [4,5,22,23,24,28,29] (fun _=>[.box [.b (.val (.int .i64 a.1)),.b (.val (.int .i64 a.2))],.box [.b (.sl (.ints tab))]]) (fun r=>r<=(g.ch.getD i []).length/\∀ q,q<r->((g.ch.getD i []).getD q []).any (dP a.1 a.2 tab i)=true) (fun r=>(g.ch.getD i []).length-r) 0 (by exact bY) ⟨Nat.zero_le _,fun j hj=>by omega⟩ fun r hr =>?_
  obtain ⟨hr,hrow⟩:=hr
  simp only [xr,simprocAttr]
  refine ah ?_
  refine aj amQ (fun he =>?_) (fun he =>?_)
  ·have he:=of_decide_eq_true he
   have hr':r<(g.ch.getD i []).length:=by omega
   obtain ⟨hok,hil,hrs⟩:=Je hg hi' hr'
   refine ah ?_
   ((try refine Or.inl ?_);refine ⟨_,(BK ((g.ch.getD i []).getD r []) _ [.ip [.val (.int .i64 a.1),.val (.int .i64 a.2)] 0,.ip [.sl (.ints tab)] 0] (dP a.1 a.2 tab i) rfl fun j hj=>KE (Ie (Bc hok hj) ha ht hil)),.inl rfl,?_⟩;refine amC ?_)
   refine ah ?_
   cases hn:((g.ch.getD i []).getD r []).any (dP a.1 a.2 tab i)
   ·refine aj amQ (fun hx =>?_) (fun hx =>?_)
    ·refine ah ?_
     refine bI ?_
     rw [Dz hi' hr' hn]
    ·cases hx
   ·refine aj amQ (fun hx =>?_) (fun hx =>?_)
    ·cases hx
    ·refine ah ?_
     refine ⟨r+1,by omega,fun q hq =>?_,by omega,.inl ?_⟩
     ·rcases Nat.lt_or_ge q r with h1 | h1
      ·exact hrow q h1
      ·obtain rfl:q=r:=by omega
       exact hn
     ·exact bY
  ·have he:=of_decide_eq_false he
   have hr':r=(g.ch.getD i []).length:=by omega
   subst hr'
   refine ah ?_
   refine ⟨i+1,by omega,fun j hj =>?_,by omega,.inl ?_⟩
   ·rcases Nat.lt_or_ge j i with h1 | h1
    ·exact hal j h1
    ·obtain rfl:j=i:=by omega
     exact hrow
   ·exact bY
 ·have hd:=of_decide_eq_false hd
  have hi':i=g.ch.length:=by omega
  subst hi'
  refine ah ?_
  refine bI ?_
  rw [iQ.2 ⟨ht,hal⟩]
theorem NH (g:GmT) (b:Bool) (tab:List Int) (hg:g.list.length<=1000):Does Tryz.prog 100 [gA g b,.sl (.ints tab)] (.imm (.bool (tbB g.list.length tab))):=by
 refine aF Tryz.func100 rfl Tryz.ntmps100 aP (fun _ _=>by kernel_rfl) rfl (Nat.le_of_ble_eq_true rfl) ?_
 intro M0 w0
 rw [Tryz.results100]
 (refine dB 1 rfl fun hf =>?_;simp only [xp,simprocAttr] at hf;simp only [xf,simprocAttr] at hf)
 refine ah ?_
 refine aA (α:=Nat) (fun k=>[(5,true,.int k)]) [1,2] (fun _=>[.box [.b (.sl (.k 2 g.list)),.b (.sl (.kii 4 (ch4 g.ch))),.b (.val (.bool b))]]) (fun k=>k<=tab.length/\allIn 0 1000000000000000 (tab.take k)=true) (fun k=>tab.length-k) 0 (by exact bY) ⟨Nat.zero_le _,rfl⟩ fun k hk =>?_
 obtain ⟨hk,hal⟩:=hk
 simp only [xr,simprocAttr]
 refine ah ?_
 refine aj amQ (fun hc =>?_) (fun hc =>?_)
 ·have hc:=of_decide_eq_true hc
  have hk':k<tab.length:=by omega
  refine ah ?_
  ((try refine Or.inl ?_);refine ⟨_,(ZG _ _ _),.inl rfl,?_⟩;refine amC ?_)
  refine ah ?_
  cases hx:rng (tab.getD k 0) 0 1000000000000000
  ·refine aj amQ (fun hd =>?_) (fun hd =>?_)
   ·refine ah ?_
    refine bI ?_
    have h1:allIn 0 1000000000000000 tab=false:=TK hk' 0 hx
    unfold tbB
    rw [h1,Bool.and_false]
   ·cases hd
  ·refine aj amQ (fun hd =>?_) (fun hd =>?_)
   ·cases hd
   ·refine ah ?_
    refine ⟨k+1,by omega,?_,by omega,.inl ?_⟩
    ·unfold allIn at hal ⊢
     rw [bD hk' 0,List.all_append,hal]
     simp only [List.all_cons,List.all_nil,hx]
     rfl
    ·exact bY
 ·have hc:=of_decide_eq_false hc
  have hk':k=tab.length:=by omega
  subst hk'
  rw [List.take_length] at hal
  refine ah ?_
  refine bI ?_
  show AV.bool _=AV.bool _
  unfold tbB
  rw [hal,Bool.and_true,Iq]
def lU (a:Int×Int) (tab:List Int) (i:Nat) (row:List (List Int)):Int:=if idxOf (dP a.1 a.2 tab i) row<0 then -1 else (row.getD (idxOf (dP a.1 a.2 tab i) row).toNat []).getD 5 0
theorem JG {m s:List (List Int)} {n f r:Nat} {row:List (List Int)} (h:sH m s n f r row) (a:Int×Int) (tab:List Int) (i:Nat):decide (lU a tab i row<0) = !row.any (dP a.1 a.2 tab i):=by
 rw [← jy]
 unfold lU
 by_cases h1:idxOf (dP a.1 a.2 tab i) row<0
 ·rw [if_pos h1,decide_eq_false (show ¬ 0<=idxOf (dP a.1 a.2 tab i) row by omega)]
  rfl
 ·obtain ⟨k,hk,e,-⟩:=nG (Int.not_lt.1 h1)
  rw [if_neg h1,decide_eq_true (show 0<=idxOf (dP a.1 a.2 tab i) row by omega)]
  have e:idxOf (dP a.1 a.2 tab i) row=k:=e
  rw [e,Int.toNat_natCast]
  obtain ⟨k',u,x,y,h2,-⟩:=Bc h hk
  rw [h2]
  show decide ((u:Int)<0)=false
  exact decide_eq_false (by omega)
theorem yC {m s:List (List Int)} {g:GmT} (hg:bf m s g) (b:Bool) {a:Int×Int} (ha:iD a=true) {tab:List Int} (ht:tbB g.list.length tab=true) {i r:Nat} (hi:i<g.ch.length) (hr:r<(g.ch.getD i []).length):Does Tryz.prog 44 [gA g b,frA a,.sl (.ints tab),.int i,.int r] (.imm (.int (lU a tab i ((g.ch.getD i []).getD r [])))):=by
 obtain ⟨hok,hil,hrs⟩:=Je hg hi hr
 have hl4:(ch4 g.ch).length=g.ch.length:=by simp [ch4]
 have h4:=jV hi
 have h4l:((ch4 g.ch).getD i []).length=(g.ch.getD i []).length:=by rw [h4,List.length_map]
 have h42:=lV hi hr
 have h42l:(((ch4 g.ch).getD i []).getD r []).length=((g.ch.getD i []).getD r []).length:=by rw [h42,List.length_map]
 have hle:=hg.le
 have hcl:=hg.clen
 have hpl:=bC hg.prob
 have hrl:=kP hg.prob hok
 refine aF Tryz.func44 rfl Tryz.ntmps44 aP (fun _ _=>by kernel_rfl) rfl (Nat.le_of_ble_eq_true rfl) ?_
 intro M0 w0
 rw [Tryz.results44]
 refine ah ?_
 refine aA (α:=Nat) (fun k=>[(11,true,.int k)]) [2,3,4,5,6] (fun _=>[.box [.b (.sl (.k 2 g.list)),.b (.sl (.kii 4 (ch4 g.ch))),.b (.val (.bool b))],.box [.b (.val (.int .i64 a.1)),.b (.val (.int .i64 a.2))]]) (fun k=>k<=((g.ch.getD i []).getD r []).length/\∀ c∈((g.ch.getD i []).getD r []).take k,dP a.1 a.2 tab i c=false) (fun k=>((g.ch.getD i []).getD r []).length-k) 0 (by exact bY) ⟨Nat.zero_le _,by simp⟩ fun k hk =>?_
 obtain ⟨hk,hno⟩:=hk
 simp only [xr,simprocAttr]
 refine ah ?_
 refine aj amQ (fun hc =>?_) (fun hc =>?_)
 ·have hc:=of_decide_eq_true hc
  have hk':k<((g.ch.getD i []).getD r []).length:=by omega
  have hse:(((ch4 g.ch).getD i []).getD r []).getD k []=c4 (((g.ch.getD i []).getD r []).getD k []):=by rw [h42,iC hk' [] []]
  obtain ⟨h1,h2,h3,h5,h6,h7,h8,h9,h10,h11,h12⟩:=Ie (Bc hok hk') ha ht hil
  have e1:(c4 (((g.ch.getD i []).getD r []).getD k [])).getD 1 0=(((g.ch.getD i []).getD r []).getD k []).getD 1 0:=rfl
  have hgc:cO a.1 a.2 (((g.ch.getD i []).getD r []).getD k [])=a.2*(((g.ch.getD i []).getD r []).getD k []).getD 2 0-a.1*(((g.ch.getD i []).getD r []).getD k []).getD 3 0:=rfl
  have e2:tab.getD ((c4 (((g.ch.getD i []).getD r []).getD k [])).getD 1 0).toNat 0=tab.getD (toC (((g.ch.getD i []).getD r []).getD k [])) 0:=rfl
  refine ah ?_
  rw [hse]
  ((try refine Or.inl ?_);refine ⟨_,(Ce a),.inl rfl,?_⟩;refine amC ?_)
  ((try refine Or.inl ?_);refine ⟨_,(zV (((g.ch.getD i []).getD r []).getD k []) a h8 (by omega) h10 (by omega)),.inl rfl,?_⟩;refine amC ?_)
  refine ah ?_
  cases hx:dP a.1 a.2 tab i (((g.ch.getD i []).getD r []).getD k [])
  ·refine aj amQ (fun hd =>?_) (fun hd =>?_)
   ·exfalso
    have h13:=hd.symm.trans hx
    cases h13
   ·refine ah ?_
    refine ⟨k+1,by omega,fun c hc =>?_,by omega,.inr ⟨2,Nat.le_of_ble_eq_true rfl,aS ?_ rfl rfl rfl⟩⟩
    ·rw [bD hk' [],List.mem_append,List.mem_singleton] at hc
     rcases hc with hc | rfl
     ·exact hno c hc
     ·exact hx
    ·exact bY
  ·refine aj amQ (fun hd =>?_) (fun hd =>?_)
   ·have h14:idxOf (dP a.1 a.2 tab i) ((g.ch.getD i []).getD r [])=k:=gK hk' (by rw [← getD_in (d:=[]) hk'];exact hx) hno
    refine ah ?_
    refine bI ?_
    unfold lU
    rw [h14,if_neg (by omega),Int.toNat_natCast]
    rfl
   ·exfalso
    have h13:=hd.symm.trans hx
    cases h13
 ·have hc:=of_decide_eq_false hc
  have hk':k=((g.ch.getD i []).getD r []).length:=by omega
  rw [hk',List.take_length] at hno
  have h14:idxOf (dP a.1 a.2 tab i) ((g.ch.getD i []).getD r []) = -1:=gJ hno
  refine ah ?_
  refine bI ?_
  unfold lU
  rw [h14]
  rfl
theorem Bj {m s:List (List Int)} {g:GmT} (hg:bf m s g) (b:Bool) {a:Int×Int} (ha:iD a=true) (tab:List Int):Does Tryz.prog 40 [gA g b,frA a,.sl (.ints tab)] (.imm (.bool (gU g a.1 a.2 tab))):=by
 have hle:=hg.le
 have hcl:=hg.clen
 have hpl:=bC hg.prob
 have hl4:(ch4 g.ch).length=g.ch.length:=by simp [ch4]
 refine aF Tryz.func40 rfl Tryz.ntmps40 aP (fun _ _=>by kernel_rfl) rfl (Nat.le_of_ble_eq_true rfl) ?_
 intro M0 w0
 rw [Tryz.results40]
 refine ah ?_
 ((try refine Or.inl ?_);refine ⟨_,(NH g b tab (by omega)),.inl rfl,?_⟩;refine amC ?_)
 refine ah ?_
 cases ht:tbB g.list.length tab
 ·refine aj amQ (fun hc =>?_) (fun hc =>?_)
  ·refine ah ?_
   refine bI ?_
   have h1:vg g tab=false:=ht
   unfold gU
   rw [h1]
   rfl
  ·cases hc
 refine aj amQ (fun hc =>?_) (fun hc =>?_)
 ·cases hc
 refine ah ?_
 refine aA (α:=Nat) (fun i=>[(7,true,.int i)]) [2,3,4] (fun _=>[.box [.b (.sl (.k 2 g.list)),.b (.sl (.kii 4 (ch4 g.ch))),.b (.val (.bool b))],.box [.b (.val (.int .i64 a.1)),.b (.val (.int .i64 a.2))]]) (fun i=>i<=g.ch.length/\∀ j,j<i->∀ r,r<(g.ch.getD j []).length->((g.ch.getD j []).getD r []).any (dP a.1 a.2 tab j)=true) (fun i=>g.ch.length-i) 0 (by exact bY) ⟨Nat.zero_le _,fun j hj=>by omega⟩ fun i hi =>?_
 obtain ⟨hi,hal⟩:=hi
 simp only [xr,simprocAttr]
 refine ah ?_
 refine aj amQ (fun hd =>?_) (fun hd =>?_)
 ·have hd:=of_decide_eq_true hd
  have hi':i<g.ch.length:=by omega
  have hrl:=hg.c.len i hi'
  have h4:=jV hi'
  have h4l:((ch4 g.ch).getD i []).length=(g.ch.getD i []).length:=by rw [h4,List.length_map]
  refine ah ?_
  refine aA (α:=Nat) (fun r=>[(8,true,.int r)]) [2,3,4,7] (fun _=>[.box [.b (.sl (.k 2 g.list)),.b (.sl (.kii 4 (ch4 g.ch))),.b (.val (.bool b))],.box [.b (.val (.int .i64 a.1)),.b (.val (.int .i64 a.2))]]) (fun r=>r<=(g.ch.getD i []).length/\∀ q,q<r->((g.ch.getD i []).getD q []).any (dP a.1 a.2 tab i)=true) (fun r=>(g.ch.getD i []).length-r) 0 (by exact bY) ⟨Nat.zero_le _,fun j hj=>by omega⟩ fun r hr =>?_
  obtain ⟨hr,hrow⟩:=hr
  simp only [xr,simprocAttr]
  refine ah ?_
  refine aj amQ (fun he =>?_) (fun he =>?_)
  ·have he:=of_decide_eq_true he
   have hr':r<(g.ch.getD i []).length:=by omega
   obtain ⟨hok,hil,hrs⟩:=Je hg hi' hr'
   have hneg:=JG hok a tab i
   refine ah ?_
   ((try refine Or.inl ?_);refine ⟨_,(yC hg b ha ht hi' hr'),.inl rfl,?_⟩;refine amC ?_)
   refine ah ?_
   rw [hneg]
   cases hn:((g.ch.getD i []).getD r []).any (dP a.1 a.2 tab i)
   ·refine aj amQ (fun hx =>?_) (fun hx =>?_)
    ·refine ah ?_
     refine bI ?_
     rw [Dz hi' hr' hn]
    ·cases hx
   ·refine aj amQ (fun hx =>?_) (fun hx =>?_)
    ·cases hx
    ·refine ah ?_
     refine ⟨r+1,by omega,fun q hq =>?_,by omega,.inl ?_⟩
     ·rcases Nat.lt_or_ge q r with h1 | h1
      ·exact hrow q h1
      ·obtain rfl:q=r:=by omega
       exact hn
     ·exact bY
  ·have he:=of_decide_eq_false he
   have hr':r=(g.ch.getD i []).length:=by omega
   subst hr'
   refine ah ?_
   refine ⟨i+1,by omega,fun j hj =>?_,by omega,.inl ?_⟩
   ·rcases Nat.lt_or_ge j i with h1 | h1
    ·exact hal j h1
    ·obtain rfl:j=i:=by omega
     exact hrow
   ·exact bY
 ·have hd:=of_decide_eq_false hd
  have hi':i=g.ch.length:=by omega
  subst hi'
  refine ah ?_
  refine bI ?_
  rw [iQ.2 ⟨ht,hal⟩]
def okB (m s:List (List Int)) (x:Int) (a:Int×Int):Bool := !(gmQ m s x).2 && iD a
def jC (m s:List (List Int)) (x:Int) (a:Int×Int) (tab:List Int):Bool:=okB m s x a && gU (gmQ m s x).1 a.1 a.2 tab
abbrev b2V (p q:Bool):AV := .tup [bT p,bT q]
theorem V7 {m s:List (List Int)} {x:Int} {a:Int×Int} (h:okB m s x a=true):(gmQ m s x).2=false/\iD a=true:=by
 unfold okB at h
 rw [Bool.and_eq_true,Bool.not_eq_true'] at h
 exact h
theorem jo (m s:List (List Int)) (x:Int) (a:Int×Int) (tab:List Int):Does Tryz.prog 7 [prA m s,.int x,frA a,.sl (.ints tab)] (.imm (b2V (jC m s x a tab) (okB m s x a))):=by
 refine aF Tryz.func7 rfl Tryz.ntmps7 aP (fun _ _=>by kernel_rfl) rfl (Nat.le_of_ble_eq_true rfl) ?_
 intro M0 w0
 rw [Tryz.results7]
 refine ah ?_
 cases hb:(gmQ m s x).2
 ·have hf:=dS hb
  (refine .inr (.inl (aJ [] (kW hb) rfl rfl rfl rfl trivial rfl rfl rfl rfl ?_));refine amC ?_)
  refine ah ?_
  ((try refine Or.inl ?_);refine ⟨_,(ql a),.inl rfl,?_⟩;refine amC ?_)
  refine ah ?_
  cases hr:iD a
  ·refine aj amQ (fun hc =>?_) (fun hc =>?_)
   ·refine ah ?_
    (simp only [xe,simprocAttr];refine ⟨[_,_],⟨rfl,rfl,trivial⟩,rfl,Imp.eq ?_⟩)
    unfold jC okB
    rw [hb,hr]
    rfl
   ·cases hc
  ·refine aj amQ (fun hc =>?_) (fun hc =>?_)
   ·cases hc
   refine ah ?_
   ((try refine Or.inl ?_);refine ⟨_,(wJ hf hr tab),.inl rfl,?_⟩;refine amC ?_)
   refine ah ?_
   (simp only [xe,simprocAttr];refine ⟨[_,_],⟨rfl,rfl,trivial⟩,rfl,Imp.eq ?_⟩)
   unfold jC okB
   rw [hb,hr]
   rfl
 ·have ho:okB m s x a=false:=by unfold okB;rw [hb];rfl
  (refine .inr (.inl (fC (sU hb) rfl rfl rfl rfl rfl rfl rfl ?_));refine amC ?_)
  refine ah ?_
  refine .inl ⟨.bool false,.inl rfl,?_⟩
  simp only [xr,simprocAttr]
  refine amS ?_
  refine ah ?_
  refine aj amQ (fun hc =>?_) (fun hc =>?_)
  ·refine ah ?_
   (simp only [xe,simprocAttr];refine ⟨[_,_],⟨rfl,rfl,trivial⟩,rfl,Imp.eq ?_⟩)
   unfold jC
   rw [ho]
   rfl
  ·cases hc
theorem rP (m s:List (List Int)) (x:Int) (a:Int×Int) (tab:List Int):Does Tryz.prog 8 [prA m s,.int x,frA a,.sl (.ints tab)] (.imm (b2V (jC m s x a tab) (okB m s x a))):=by
 refine aF Tryz.func8 rfl Tryz.ntmps8 aP (fun _ _=>by kernel_rfl) rfl (Nat.le_of_ble_eq_true rfl) ?_
 intro M0 w0
 rw [Tryz.results8]
 refine ah ?_
 cases hb:(gmQ m s x).2
 ·have hf:=dS hb
  have ht:=iJ hb
  ((try refine Or.inl ?_);refine ⟨_,(gG ht),amF,?_⟩;refine amC ?_)
  rw [hb]
  refine ah ?_
  ((try refine Or.inl ?_);refine ⟨_,(zX a),.inl rfl,?_⟩;refine amC ?_)
  refine ah ?_
  cases hr:iD a
  ·refine aj amQ (fun hc =>?_) (fun hc =>?_)
   ·refine ah ?_
    (simp only [xe,simprocAttr];refine ⟨[_,_],⟨rfl,rfl,trivial⟩,rfl,Imp.eq ?_⟩)
    unfold jC okB
    rw [hb,hr]
    rfl
   ·cases hc
  ·refine aj amQ (fun hc =>?_) (fun hc =>?_)
   ·cases hc
   refine ah ?_
   ((try refine Or.inl ?_);refine ⟨_,(Bj hf _ hr tab),.inl rfl,?_⟩;refine amC ?_)
   refine ah ?_
   (simp only [xe,simprocAttr];refine ⟨[_,_],⟨rfl,rfl,trivial⟩,rfl,Imp.eq ?_⟩)
   unfold jC okB
   rw [hb,hr]
   rfl
 ·have ho:okB m s x a=false:=by unfold okB;rw [hb];rfl
  cases ht:bH m s x []
  ·((try refine Or.inl ?_);refine ⟨_,(nK ht),amF,?_⟩;refine amC ?_)
   refine ah ?_
   refine .inl ⟨.bool false,.inl rfl,?_⟩
   simp only [xr,simprocAttr]
   refine amS ?_
   refine ah ?_
   refine aj amQ (fun hc =>?_) (fun hc =>?_)
   ·refine ah ?_
    (simp only [xe,simprocAttr];refine ⟨[_,_],⟨rfl,rfl,trivial⟩,rfl,Imp.eq ?_⟩)
    unfold jC
    rw [ho]
    rfl
   ·cases hc
  ·((try refine Or.inl ?_);refine ⟨_,(gG ht),amF,?_⟩;refine amC ?_)
   rw [hb]
   refine ah ?_
   refine .inl ⟨.bool false,.inl rfl,?_⟩
   simp only [xr,simprocAttr]
   refine amS ?_
   refine ah ?_
   refine aj amQ (fun hc =>?_) (fun hc =>?_)
   ·refine ah ?_
    (simp only [xe,simprocAttr];refine ⟨[_,_],⟨rfl,rfl,trivial⟩,rfl,Imp.eq ?_⟩)
    unfold jC
    rw [ho]
    rfl
   ·cases hc
end Go.Proofs.YtkcelmnbfbehbaaGreat
