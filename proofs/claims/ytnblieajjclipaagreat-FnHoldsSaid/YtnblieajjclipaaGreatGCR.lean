/- Choices of games on the machine: small facts. Conditions: games that are whole. -/
import Derived.Test.YtnblieajjclipaaGreatGB
set_option linter.all false
namespace Go.Proofs.YtnblieajjclipaaGreat
open Go Go.RowKit Am
abbrev bT (b:Bool):TV := .one (.b (.val (.bool b)))
theorem iw {α β:Type} {f:α->β} {xs:List α} {k:Nat} (h:k<xs.length) (d:α) (d':β):(xs.map f).getD k d'=f (xs.getD k d):=by simp [h]
theorem lJ {ch:List (List (List (List Int)))} {i:Nat} (h:i<ch.length):(ch4 ch).getD i []=(ch.getD i []).map fun r=>r.map c4:=iw h [] []
theorem lZ {ch:List (List (List (List Int)))} {i r:Nat} (h:i<ch.length) (hr:r<(ch.getD i []).length):((ch4 ch).getD i []).getD r []=((ch.getD i []).getD r []).map c4:=by
 rw [lJ h]
 exact iw hr [] []
theorem L8 {α:Type} {p:α->Bool} {xs:List α} {i:Nat} (hi:i<xs.length) (d:α) (h:p (xs.getD i d)=false):xs.all p=false:=by
 rw [Bool.eq_false_iff]
 intro e
 have:=List.all_eq_true.1 e (xs.getD i d) (by rw [getD_in hi];exact List.getElem_mem hi)
 rw [h] at this
 cases this
theorem Nl {m s:List (List Int)} {y:Nat} (h:bH m s y []=true):gmQ m s y=gm m s y:=by unfold gmQ;rw [h,Int.toNat_natCast];rfl
theorem gV {m s:List (List Int)} {x:Int} (h:(gmQ m s x).2=false):bH m s x []=true:=by
 cases e:bH m s x []
 ·rw [Bj e] at h;cases h
 ·rfl
theorem fM {m s:List (List Int)} {x:Int} (h:(gmQ m s x).2=false):aU m s (gmQ m s x).1:=by
 have ht:=gV h
 obtain ⟨hp,⟨y,rfl,hy⟩,-,-⟩:=qc ht
 rw [Nl ht] at h ⊢
 exact XZ hp hy h
theorem rW {m s:List (List Int)} {x:Int} (h:(gmQ m s x).2=false):bP Tryz.prog 45 [prA m s,.int x] [] [] (.tup [.one (.ptr 0 0),.one (.b (.val (.bool true)))]) [.box [.own 1,.own 2],.row 112 (.k 2 (gmQ m s x).1.list),.row 101 (.kii 6 (gmQ m s x).1.ch)]:=by
 have:=J4 m s x
 unfold gmR gmO at this
 rw [h] at this
 exact this
theorem xX {m s:List (List Int)} {x:Int} (h:(gmQ m s x).2=true):bP Tryz.prog 45 [prA m s,.int x] [] [] (.tup [.one (.b (.val (.pointer none))),.one (.b (.val (.bool false)))]) []:=by
 have:=J4 m s x
 unfold gmR gmO at this
 rw [h] at this
 exact this
abbrev six (c:List Int):AV := .tv (.agg [.b (.val (.int .i64 (c.getD 0 0))),.b (.val (.int .i64 (c.getD 1 0))),.b (.val (.int .i64 (c.getD 2 0))),.b (.val (.int .i64 (c.getD 3 0))),.b (.val (.int .i64 (c.getD 4 0))),.b (.val (.int .i64 (c.getD 5 0)))])
theorem Ib (xs:List (List Int)) (K:Nat) (caps:List Lf) (p:List Int->Bool) (hcap:caps.all uP=true) (hK:∀ j,j<xs.length->Does Tryz.prog K (six (xs.getD j [])::caps.map fun y => .tv (.one y)) (.imm (.bool (p (xs.getD j []))))) :
  Does Tryz.prog 129 [.sl (.k 6 xs),.clo K caps] (.imm (.int (idxOf p xs))):=by
 refine aF Tryz.func129 rfl Tryz.ntmps129 aQ (fun _ _=>by kernel_rfl) (by simp only [List.all_cons,List.all_nil,rP hcap];rfl) (Nat.le_of_ble_eq_true rfl) ?_
 intro M0 w0
 rw [Tryz.results129]
 (refine bY 0 rfl fun hf =>?_;simp only [xp,simprocAttr] at hf;simp only [xf,simprocAttr] at hf)
 refine ah ?_
 refine aA (α:=Nat) (fun k=>[(8,true,.int k)]) [0,1,6,7] (fun _=>[]) (fun k=>k<=xs.length/\∀ x∈xs.take k,p x=false) (fun k=>xs.length-k) 0 (by exact bW) ⟨Nat.zero_le _,by simp⟩ fun k hk =>?_
 obtain ⟨hk,hp⟩:=hk
 simp only [xr,simprocAttr]
 refine ah ?_
 refine aj amQ (fun hc =>?_) (fun hc =>?_)
 ·have hk':k<xs.length:=by simpa using hc
  have hx:xs.getD k []=xs[k]:=by simp [hk']
  refine ah ?_
  (simp only [xr,simprocAttr,mM hcap];refine amS ?_)
  ((try refine Or.inl ?_);refine ⟨_,(hK k hk'),.inl rfl,?_⟩;refine amC ?_)
  refine ah ?_
  refine aj amQ (fun hd =>?_) (fun hd =>?_)
  ·refine ah ?_
   refine bJ ?_
   rw [hx] at hd
   rw [ig hk' hd hp]
  ·refine ah ?_
   refine ⟨k+1,by omega,fun x hx' =>?_,by omega,.inl ?_⟩
   ·rw [List.take_succ_eq_append_getElem hk',List.mem_append,List.mem_singleton] at hx'
    rcases hx' with hx' | rfl
    ·exact hp x hx'
    ·rw [← hx];exact hd
   ·exact bW
 ·have hk':k=xs.length:=by simp at hc;omega
  subst hk'
  rw [List.take_length] at hp
  refine ah ?_
  refine bJ ?_
  rw [gZ hp]
abbrev gA (g:GmT) (b:Bool):AV := .tv (.agg [.b (.sl (.k 2 g.list)),.b (.sl (.kii 4 (ch4 g.ch))),.b (.val (.bool b))])
abbrev gI (g:GmT):AV := .lf (.ip [.sl (.k 2 g.list),.sl (.kii 6 g.ch)] 0)
def jA (a:Int×Int):Bool:=frB a.1 a.2 && decide (0<=a.1)
theorem Ef {a:Int×Int} (h:jA a=true):0<=a.1/\a.1<=100000000/\1<=a.2/\a.2<=100000:=by
 unfold jA at h
 rw [Bool.and_eq_true,kK,decide_eq_true_eq] at h
 obtain ⟨⟨h1,h2,h3,h4,-⟩,h5⟩:=h
 exact ⟨h5,h4,h1,h2⟩
theorem U6 (n d:Int):Does Tryz.prog 119 [frA (n,d)] (.imm (.bool (frB n d))) :=
 ng (v := .bool (frB n d)) (fun _ _=>by kernel_rfl) fun M w us hm ha=>by
  obtain ⟨u,us',rfl,k1,k2⟩:=dK ha
  obtain rfl:=iH k2
  obtain ⟨a,b,rfl,h1,h2⟩:=zM k1
  obtain rfl:a = .int .i64 n:=h1
  obtain rfl:b = .int .i64 d:=h2
  exact qG w n d
theorem Va (n d:Int):Does Tryz.prog 121 [frA (n,d)] (.imm (.bool (frB n d))) :=
 ng (v := .bool (frB n d)) (fun _ _=>by kernel_rfl) fun M w us hm ha=>by
  obtain ⟨u,us',rfl,k1,k2⟩:=dK ha
  obtain rfl:=iH k2
  obtain ⟨a,b,rfl,h1,h2⟩:=zM k1
  obtain rfl:a = .int .i64 n:=h1
  obtain rfl:b = .int .i64 d:=h2
  exact vZ w n d
theorem F8 (a:Int×Int):Does Tryz.prog 54 [frA a] (.imm (.bool (jA a))):=by
 refine aF Tryz.func54 rfl Tryz.ntmps54 aQ (fun _ _=>by kernel_rfl) rfl (Nat.le_of_ble_eq_true rfl) ?_
 intro M0 w0
 rw [Tryz.results54]
 refine ah ?_
 ((try refine Or.inl ?_);refine ⟨_,(U6 a.1 a.2),.inl rfl,?_⟩;refine amC ?_)
 refine ah ?_
 refine bJ ?_
 show AV.bool _=AV.bool _
 simp only [Bool.cond_false_right]
 rfl
theorem RQ (a:Int×Int):Does Tryz.prog 59 [frA a] (.imm (.bool (jA a))):=by
 refine aF Tryz.func59 rfl Tryz.ntmps59 aQ (fun _ _=>by kernel_rfl) rfl (Nat.le_of_ble_eq_true rfl) ?_
 intro M0 w0
 rw [Tryz.results59]
 refine ah ?_
 ((try refine Or.inl ?_);refine ⟨_,(Va a.1 a.2),.inl rfl,?_⟩;refine amC ?_)
 refine ah ?_
 refine bJ ?_
 show AV.bool _=AV.bool _
 simp only [Bool.cond_false_right]
 rfl
theorem Jy (x n:Int) (hn : -9223372036854775807<=n/\n<=9223372036854775807):Does Tryz.prog 166 [.int x,.lf (.ip [.val (.int .i64 n)] 0)] (.imm (.bool (!rng x 0 (n-1)))):=by
 refine aF Tryz.func166 rfl Tryz.ntmps166 aQ (fun _ _=>by kernel_rfl) rfl (Nat.le_of_ble_eq_true rfl) ?_
 intro M0 w0
 rw [Tryz.results166]
 refine ah ?_
 ((try refine Or.inl ?_);refine ⟨_,(ES _ _ _),.inl rfl,?_⟩;refine amC ?_)
 refine ah ?_
 refine bJ ?_
 rfl
theorem Ce (n:Int) (xs:List Int) (hn : -9223372036854775807<=n/\n<=9223372036854775807):Does Tryz.prog 120 [.int n,.sl (.ints xs)] (.imm (.bool (allIn 0 (n-1) xs))):=by
 refine aF Tryz.func120 rfl Tryz.ntmps120 aQ (fun _ _=>by kernel_rfl) rfl (Nat.le_of_ble_eq_true rfl) ?_
 intro M0 w0
 rw [Tryz.results120]
 refine ah ?_
 ((try refine Or.inl ?_);refine ⟨_,(AX xs _ [.ip [.val (.int .i64 n)] 0] (fun x => !rng x 0 (n-1)) rfl fun j hj=>Jy _ n hn),.inl rfl,?_⟩;refine amC ?_)
 refine ah ?_
 refine bJ ?_
 show AV.bool _=AV.bool _
 congr 1
 rw [List.not_any_eq_all_not]
 simp [allIn]
def tbB (n:Nat) (tab:List Int):Bool:=(tab.length == n) && allIn 0 1000000000000000 tab
theorem xC (tab:List Int) (k:Nat) (hk:k<=1000):Does Tryz.prog 56 [.sl (.ints tab),.int k] (.imm (.bool (tbB k tab))):=by
 refine aF Tryz.func56 rfl Tryz.ntmps56 aQ (fun _ _=>by kernel_rfl) rfl (Nat.le_of_ble_eq_true rfl) ?_
 intro M0 w0
 rw [Tryz.results56]
 (refine bY 0 rfl fun hf =>?_;simp only [xp,simprocAttr] at hf;simp only [xf,simprocAttr] at hf)
 refine ah ?_
 ((try refine Or.inl ?_);refine ⟨_,(fun _=>Ce 1000000000000001 tab (by omega)),.inl rfl,?_⟩;refine amC ?_)
 refine ah ?_
 refine bJ ?_
 show AV.bool _=AV.bool _
 simp only [Bool.cond_false_right,xK]
 rfl
abbrev four (c:List Int):AV := .tv (.agg [.b (.val (.int .i64 (c.getD 0 0))),.b (.val (.int .i64 (c.getD 1 0))),.b (.val (.int .i64 (c.getD 2 0))),.b (.val (.int .i64 (c.getD 3 0)))])
theorem UL (c:List Int) (a:Int×Int) (h1:0<=a.2*c.getD 2 0) (h2:a.2*c.getD 2 0<=1000000000000000) (h3:0<=a.1*c.getD 3 0) (h4:a.1*c.getD 3 0<=1000000000000000):Does Tryz.prog 57 [four c,frA a] (.imm (.int (aW a.1 a.2 c))):=by
 refine aF Tryz.func57 rfl Tryz.ntmps57 aQ (fun _ _=>by kernel_rfl) rfl (Nat.le_of_ble_eq_true rfl) ?_
 intro M0 w0
 rw [Tryz.results57]
 refine ah ?_
 refine bJ ?_
 rfl
theorem Ij (a:Int×Int):Does Tryz.prog 87 [frA a] (.imm (frA (a.2,a.1))):=by
 refine aF Tryz.func87 rfl Tryz.ntmps87 aQ (fun _ _=>by kernel_rfl) rfl (Nat.le_of_ble_eq_true rfl) ?_
 intro M0 w0
 rw [Tryz.results87]
 refine ah ?_
 (simp only [xec,simprocAttr];refine ⟨_,⟨amK,rfl⟩,rfl,Imp.eq ?_⟩)
 rfl
theorem zJ (c:List Int) (a:Int×Int) (h1:0<=a.2*c.getD 2 0) (h2:a.2*c.getD 2 0<=1000000000000000) (h3:0<=a.1*c.getD 3 0) (h4:a.1*c.getD 3 0<=1000000000000000):Does Tryz.prog 92 [frA (a.2,a.1),four (c4 c)] (.imm (.int (aW a.1 a.2 c))):=by
 have e1:(c4 c).getD 2 0=c.getD 2 0:=rfl
 have e2:(c4 c).getD 3 0=c.getD 3 0:=rfl
 rw [← e1] at h1 h2
 rw [← e2] at h3 h4
 refine aF Tryz.func92 rfl Tryz.ntmps92 aQ (fun _ _=>by kernel_rfl) rfl (Nat.le_of_ble_eq_true rfl) ?_
 intro M0 w0
 rw [Tryz.results92]
 refine ah ?_
 refine bJ ?_
 rfl
structure Td (a:Int×Int) (tab:List Int) (i:Nat) (c:List Int):Prop where
 fr:c.getD 0 0=i
 to:c.getD 1 0=(toC c:Int)
 il:i<tab.length
 tl:toC c<tab.length
 i0:0<=tab.getD i 0/\tab.getD i 0<=1000000000000000
 t0:0<=tab.getD (toC c) 0/\tab.getD (toC c) 0<=1000000000000000
 g1:0<=a.2*c.getD 2 0
 g2:a.2*c.getD 2 0<=119000000000
 g3:0<=a.1*c.getD 3 0
 g4:a.1*c.getD 3 0<=100000000000000
 r0:0<=c.getD 3 0/\c.getD 3 0<=100000
theorem Xa {n:Nat} {tab:List Int} (h:tbB n tab=true) {j:Nat} (hj:j<n):j<tab.length/\0<=tab.getD j 0/\tab.getD j 0<=1000000000000000:=by
 unfold tbB at h
 rw [Bool.and_eq_true,beq_iff_eq,jS] at h
 have hj':j<tab.length:=by omega
 have:=h.2 (tab.getD j 0) (by rw [getD_in hj'];exact List.getElem_mem hj')
 exact ⟨hj',this⟩
theorem Bd {m:List (List Int)} {n i r:Nat} {c:List Int} (hc:CW m n i r c) {a:Int×Int} (ha:jA a=true) {tab:List Int} (ht:tbB n tab=true) (hi:i<n):Td a tab i c:=by
 have h1:=Ef ha
 obtain ⟨k1,k2,k3,_,_,k6,k7,k8,k9,k10,k11⟩:=XW hc (num:=a.1) (den:=a.2) (by omega) (by omega) (by omega) (by omega)
 have h2:=Xa ht hi
 have h3:=Xa ht k1
 exact ⟨k3,k2,h2.1,h3.1,h2.2,h3.2,k8,k9,k10,k11,k6,k7⟩
theorem WM {m s:List (List Int)} {g:GmT} (hg:aU m s g) {i r:Nat} (hi:i<g.ch.length) (hr:r<(g.ch.getD i []).length):uO m s g.list.length i r ((g.ch.getD i []).getD r [])/\i<g.list.length/\r<s.length:=by
 have h1:=hg.c.len i hi
 have h2:=hg.clen
 exact ⟨hg.c.row i r hi (by omega),by omega,by omega⟩
theorem JV {m s:List (List Int)} {n i r:Nat} {row:List (List Int)} (h:uO m s n i r row) {k:Nat} (hk:k<row.length):CW m n i r (row.getD k []):=h.el _ (by rw [getD_in hk];exact List.getElem_mem hk)
theorem Dy (g:GmT) (b:Bool) (tab:List Int) (hg:g.list.length<=1000):Does Tryz.prog 122 [gA g b,.sl (.ints tab)] (.imm (.bool (tbB g.list.length tab))):=by
 refine aF Tryz.func122 rfl Tryz.ntmps122 aQ (fun _ _=>by kernel_rfl) rfl (Nat.le_of_ble_eq_true rfl) ?_
 intro M0 w0
 rw [Tryz.results122]
 (refine bY 1 rfl fun hf =>?_;simp only [xp,simprocAttr] at hf;simp only [xf,simprocAttr] at hf)
 refine ah ?_
 refine aA (α:=Nat) (fun k=>[(5,true,.int k)]) [1,2] (fun _=>[.box [.b (.sl (.k 2 g.list)),.b (.sl (.kii 4 (ch4 g.ch))),.b (.val (.bool b))]]) (fun k=>k<=tab.length/\allIn 0 1000000000000000 (tab.take k)=true) (fun k=>tab.length-k) 0 (by exact bW) ⟨Nat.zero_le _,rfl⟩ fun k hk =>?_
 obtain ⟨hk,hal⟩:=hk
 simp only [xr,simprocAttr]
 refine ah ?_
 refine aj amQ (fun hc =>?_) (fun hc =>?_)
 ·have hc:=of_decide_eq_true hc
  have hk':k<tab.length:=by omega
  refine ah ?_
  ((try refine Or.inl ?_);refine ⟨_,(Nw _ _ _),.inl rfl,?_⟩;refine amC ?_)
  refine ah ?_
  cases hx:rng (tab.getD k 0) 0 1000000000000000
  ·refine aj amQ (fun hd =>?_) (fun hd =>?_)
   ·refine ah ?_
    refine bJ ?_
    have h1:allIn 0 1000000000000000 tab=false:=L8 hk' 0 hx
    unfold tbB
    rw [h1,Bool.and_false]
   ·cases hd
  ·refine aj amQ (fun hd =>?_) (fun hd =>?_)
   ·cases hd
   ·refine ah ?_
    refine ⟨k+1,by omega,?_,by omega,.inl ?_⟩
    ·unfold allIn at hal ⊢
     rw [eU hk' 0,List.all_append,hal]
     simp only [List.all_cons,List.all_nil,hx]
     rfl
    ·exact bW
 ·have hc:=of_decide_eq_false hc
  have hk':k=tab.length:=by omega
  subst hk'
  rw [List.take_length] at hal
  refine ah ?_
  refine bJ ?_
  show AV.bool _=AV.bool _
  unfold tbB
  rw [hal,Bool.and_true,xK]
def okB (m s:List (List Int)) (x:Int) (a:Int×Int):Bool := !(gmQ m s x).2 && jA a
abbrev b2V (p q:Bool):AV := .tup [bT p,bT q]
theorem VQ {m s:List (List Int)} {x:Int} {a:Int×Int} (h:okB m s x a=true):(gmQ m s x).2=false/\jA a=true:=by
 unfold okB at h
 rw [Bool.and_eq_true,Bool.not_eq_true'] at h
 exact h
end Go.Proofs.YtnblieajjclipaaGreat
