/- Sequences of requests and chances: are they right for a problem, by the program's functions. Conditions: none. -/
import Derived.Test.YtnblieajjclipaaGreatGMI
set_option linter.all false
namespace Go.Proofs.YtnblieajjclipaaGreat
open Go.RowKit
def seqB (n:Nat) (xs:List Int):Bool:=decide (xs.length<=60) && allIn 0 ((n:Int)-1) xs
def Zh (w:World) (v:Value) (ws:List Int) (qs:List (List Int)):Prop:=∃ u1 u2,v = .agg #[u1,u2]/\SlI w u1 ws/\jr w u2 qs
theorem Zh.below {w w':World} {v:Value} {ws:List Int} {qs:List (List Int)} (h:Zh w v ws qs) (hb:Below w.heap.size w w'):Zh w' v ws qs:=by
 obtain ⟨u1,u2,e,h1,h2⟩:=h
 exact ⟨u1,u2,e,SlI.below h1 hb,jr.below h2 hb⟩
theorem AY:Enters Tryz.prog 166:=fun _ _=>by kernel_rfl
theorem EZ (w:World) (a:Addr) (x:Int) (n:Nat) (hn:n<=9223372036854775807) (hc:w.cell? a=some (.int .i64 n)) :
  Calls Tryz.prog 166 (#[.int .i64 x]++#[.pointer (some a)]) w fun e w'=>e = .returned (.bool (!rng x 0 ((n:Int)-1)))/\Below w.heap.size w w':=by
 simp only [List.push_toArray,List.append_toArray,List.cons_append,List.nil_append]
 go_enter Tryz.func166,Tryz.ntmps166
 go_wp2_with (go_at_call 128;refine (eX _ _ _ _).mono ?_;rintro e w' ⟨rfl,rfl⟩;dsimp only)
 go_ret
 exact ⟨rfl,Below.refl _ _⟩
theorem Hu (w:World) (u:Value) (n:Nat) (xs:List Int) (hn:n<=9223372036854775807) (hx:SlI w u xs) :
  Calls Tryz.prog 120 #[.int .i64 n,u] w fun e w'=>e = .returned (.bool (allIn 0 ((n:Int)-1) xs))/\Below w.heap.size w w':=by
 have hb:Below w.heap.size w (w.alloc (.cells #[.int .i64 n] 3)):=by repeat (first | exact Below.refl _ _ | apply Below.drew | refine Below.setCell ?_ (by first | (simp;done) | (simp;omega)) _ | refine Below.alloc ?_ (by first | (simp;done) | (simp;omega)) _)
 have H:=hide (nV (w.alloc (.cells #[.int .i64 n] 3)) u xs 166 #[.pointer (some ⟨w.heap.size,0,none⟩)] (fun x => !rng x 0 ((n:Int)-1)) AY (hx.below hb) (fun W hW j hj v hv=>by
  subst hv
  exact EZ W _ _ n hn (aY hW (by simp [go_sem]))))
 have HR:Hid ((!xs.any fun x => !rng x 0 ((n:Int)-1))=allIn 0 ((n:Int)-1) xs):=by
  show (!xs.any fun x => !rng x 0 ((n:Int)-1))=_
  rw [AB]
 clear hx
 go_enter Tryz.func120,Tryz.ntmps120
 go_wp2_with ((with_reducible refine H.out.mono ?_);rintro e w2 ⟨rfl,hb2⟩;dsimp only)
 go_ret
 exact ⟨by rw [← HR.out];rfl,hb.trans (hb2.mono (by simp))⟩
theorem Dw (w:World) (v u:Value) (m s:List (List Int)) (xs:List Int) (hp:vG w v m s) (hx:SlI w u xs) :
  Calls Tryz.prog 132 #[v,u] w fun e w'=>e = .returned (.bool (seqB s.length xs))/\Below w.heap.size w w':=by
 obtain ⟨u1,u2,rfl,h1,h2⟩:=hp
 have hls:=SlO.len h2
 have hlx:=hx.len
 have hb:Below w.heap.size w (w.alloc (.cells #[u1,u2] 29)):=by repeat (first | exact Below.refl _ _ | apply Below.drew | refine Below.setCell ?_ (by first | (simp;done) | (simp;omega)) _ | refine Below.alloc ?_ (by first | (simp;done) | (simp;omega)) _)
 have H:=hide (Hu _ u s.length xs hls (hx.below hb))
 obtain ⟨A1,c1,rfl,_,_,_⟩:=SlO.view h1
 obtain ⟨A2,c2,rfl,_,_,_⟩:=SlO.view h2
 obtain ⟨A,c,rfl,_,_,_⟩:=hx.view
 clear h1 h2 hx
 by_cases hl:xs.length<=60
 ·have HP:Hid (seqB s.length xs=allIn 0 ((s.length:Int)-1) xs):=by show seqB s.length xs=_;simp [seqB,hl]
  have hl':(xs.length:Int)<=60:=by omega
  have hd:decide ((xs.length:Int)<=60)=true:=by simp [hl']
  rw [HP.out]
  clear hl
  go_enter Tryz.func132,Tryz.ntmps132
  go_wp2_with ((with_reducible refine H.out.mono ?_);rintro e w2 ⟨rfl,hb2⟩;dsimp only)
  go_ret
  exact ⟨by simp,hb.trans (hb2.mono (by simp))⟩
 ·have HP:Hid (seqB s.length xs=false):=by show seqB s.length xs=_;simp [seqB,hl]
  have hd:decide ((xs.length:Int)<=60)=false:=by simp;omega
  rw [HP.out]
  clear hl
  go_enter Tryz.func132,Tryz.ntmps132
  go_wp2
  go_ret
  exact ⟨by simp,hb⟩
def bH (m s:List (List Int)) (start:Int) (xs:List Int):Bool:=bg m s && rng start 0 ((m.length:Int)-1) && seqB s.length xs
set_option maxHeartbeats 2000000 in
theorem KJ (w:World) (v u:Value) (m s:List (List Int)) (start:Int) (xs:List Int) (hp:vG w v m s) (hx:SlI w u xs) :
  Calls Tryz.prog 84 #[v,.int .i64 start,u] w fun e w'=>e = .returned (.bool (bH m s start xs))/\Below w.heap.size w w':=by
 have hp0:=hp
 obtain ⟨u1,u2,rfl,h1,h2⟩:=hp
 obtain ⟨W,hW⟩:∃ W,w.alloc (.cells #[u1,u2] 29)=W:=⟨_,rfl⟩
 have hB:Below w.heap.size w W:=by rw [← hW];exact by repeat (first | exact Below.refl _ _ | apply Below.drew | refine Below.setCell ?_ (by first | (simp;done) | (simp;omega)) _ | refine Below.alloc ?_ (by first | (simp;done) | (simp;omega)) _)
 have hb1:W.cell? ⟨w.heap.size,0,none⟩=some u1:=by rw [← hW];simp [go_sem]
 have hb2:W.cell? ⟨w.heap.size,1,none⟩=some u2:=by rw [← hW];simp [go_sem]
 have hlm:=SlO.len h1
 have hls:=SlO.len h2
 have hlx:=SlI.len hx
 have HA:=hide (NC W _ m s (hp0.below hB))
 obtain ⟨A1,c1,rfl,_,_,_⟩:=SlO.view h1
 obtain ⟨A2,c2,rfl,_,_,_⟩:=SlO.view h2
 obtain ⟨A,c,rfl,_,_,hcell⟩:=SlI.view hx
 have HW:=hide hW
 have HCELL:=hide hcell
 have hwr1:IntKind.i64.wrap ((m.length:Int)-1)=(m.length:Int)-1:=IntWalk.i64_in _ (by omega)
 have hwr2:IntKind.i64.wrap ((s.length:Int)-1)=(s.length:Int)-1:=IntWalk.i64_in _ (by omega)
 clear hp0 h1 h2 hx hcell hW
 cases q1:bg m s
 ·have HP:Hid (bH m s start xs=false):=by show bH m s start xs=_;simp [bH,q1]
  have Q1:=hide q1
  clear q1
  rw [HP.out]
  go_enter Tryz.func84,Tryz.ntmps84
  go_wp2_with fail
  rw [HW.out]
  refine HA.out.mono ?_
  rintro e w2 ⟨rfl,hb2'⟩
  rw [Q1.out]
  dsimp only
  go_wp2
  go_ret
  exact ⟨rfl,hB.trans (hb2'.mono hB.size)⟩
 ·have Q1:=hide q1
  cases q2:rng start 0 ((m.length:Int)-1)
  ·have HP:Hid (bH m s start xs=false):=by show bH m s start xs=_;simp [bH,q2]
   have Q2:=hide q2
   clear q1 q2
   rw [HP.out]
   go_enter Tryz.func84,Tryz.ntmps84
   go_wp2_with fail
   rw [HW.out]
   refine HA.out.mono ?_
   rintro e w2 ⟨rfl,hb2'⟩
   rw [Q1.out]
   have d1:=aY hb2' hb1
   dsimp only
   go_wp2_with fail
   refine (dX _ _ _ _).mono ?_
   rintro e w' ⟨rfl,rfl⟩
   rw [Q2.out]
   dsimp only
   go_wp2
   go_ret
   exact ⟨rfl,hB.trans (hb2'.mono hB.size)⟩
  ·have Q2:=hide q2
   by_cases q3:xs.length<=60
   ·have hg:decide ((xs.length:Int) > 60)=false:=by simp;omega
    have HP:Hid (bH m s start xs=allIn 0 ((s.length:Int)-1) xs):=by show bH m s start xs=_;simp [bH,seqB,q1,q2,q3]
    clear q1 q2 q3
    rw [HP.out]
    go_enter Tryz.func84,Tryz.ntmps84
    go_wp2_with fail
    rw [HW.out]
    refine HA.out.mono ?_
    rintro e w2 ⟨rfl,hb2'⟩
    rw [Q1.out]
    have d1:=aY hb2' hb1
    have d2:=aY hb2' hb2
    have B2:=hB.trans (hb2'.mono hB.size)
    have HB2:=hide B2
    dsimp only
    go_wp2_with fail
    refine (dX _ _ _ _).mono ?_
    rintro e w' ⟨rfl,rfl⟩
    rw [Q2.out]
    dsimp only
    go_wp2
    go_loopw [7] (fun i wr=>∃ k:Nat,k<=xs.length/\i = .int .i64 k/\Hid (∀ x∈xs.take k,rng x 0 ((s.length:Int)-1)=true)/\Qt w2 wr) (fun i _=>xs.length-(intOf i).toNat)
    case atStart=>exact ⟨0,Nat.zero_le _,rfl,(fun x h=>by simp at h),Qt.refl _⟩
    case round =>
     obtain ⟨k,hk,rfl,hN,n,rfl⟩:=hrel
     by_cases hlt:k<xs.length
     ·obtain ⟨ad,rfl,j1⟩:=HCELL.out k hlt
      have j1':w2.cell? (ad.add k)=some (.int .i64 xs[k]):=(HB2.out.cell (block_lt j1)).trans j1
      have HR:=hide fun a=>dX (w2.drewN a) xs[k] 0 ((s.length:Int)-1)
      clear j1
      cases hp:rng xs[k] 0 ((s.length:Int)-1)
      ·have HF:Hid (allIn 0 ((s.length:Int)-1) xs=false):=Js (List.getElem_mem hlt) hp
       rw [hp] at HR
       clear hp
       go_wp2_with fail
       go_quiet ((go_at_call 70;first | exact jh (HR.out _) | exact jg (HR.out _)))
       go_wp2
       go_ret
       exact ⟨by rw [HF.out];rfl,below_drewN (below_drewN HB2.out _) _⟩
      ·have HP2:=hide hp
       rw [hp] at HR
       clear hp
       go_wp2_with fail
       go_quiet ((go_at_call 70;first | exact jh (HR.out _) | exact jg (HR.out _)))
       go_wp2
       go_roundw
       case rel =>
        refine ⟨k+1,by omega,by go_num,?_,by first | exact ⟨_,rfl⟩ | exact ⟨_,World.drewN_drewN _ _ _⟩⟩
        intro x hx
        rw [List.take_succ_eq_append_getElem hlt] at hx
        rcases List.mem_append.1 hx with hx | hx
        ·exact hN.out x hx
        ·simp at hx
         rw [hx]
         exact HP2.out
       case measure=>simp [intOf];omega
     ·go_wp2
      go_ret
      obtain rfl:k=xs.length:=by omega
      have h1:=hN.out
      rw [List.take_of_length_le (Nat.le_refl _)] at h1
      have h2:allIn 0 ((s.length:Int)-1) xs=true:=by unfold allIn;exact List.all_eq_true.2 h1
      exact ⟨by rw [h2];rfl,below_drewN HB2.out _⟩
   ·have hg:decide ((xs.length:Int) > 60)=true:=by simp;omega
    have HP:Hid (bH m s start xs=false):=by show bH m s start xs=_;simp [bH,seqB,q3]
    clear q1 q2 q3
    rw [HP.out]
    go_enter Tryz.func84,Tryz.ntmps84
    go_wp2_with fail
    rw [HW.out]
    refine HA.out.mono ?_
    rintro e w2 ⟨rfl,hb2'⟩
    rw [Q1.out]
    have d1:=aY hb2' hb1
    dsimp only
    go_wp2_with fail
    refine (dX _ _ _ _).mono ?_
    rintro e w' ⟨rfl,rfl⟩
    rw [Q2.out]
    dsimp only
    go_wp2
    go_ret
    exact ⟨rfl,hB.trans (hb2'.mono hB.size)⟩
end Go.Proofs.YtnblieajjclipaaGreat
namespace Go.Proofs.YtnblieajjclipaaGreat
open Go Go.RowKit Am
theorem Does.args {P:Program} {f:Nat} {xs ys:List AV} {r:Res} (h:Does P f ys r) (k:∀ M us,fO M xs us->fO M ys us):Does P f xs r:=⟨h.1,fun M w us hm ha=>h.2 M w us hm (k M us ha)⟩
theorem VJ {M:Am.Mem} {u:Value} (h:(AV.val (.slice none 0 0)).rel lN M u):(AV.sl (.ints [])).rel lN M u:=by
 obtain rfl:u = .slice none 0 0:=h
 exact Iw (c := .ints []) rfl trivial
theorem bI {m s:List (List Int)} (h:bg m s=true):1<=m.length/\m.length<=4/\1<=s.length/\s.length<=4:=by
 have h1:rng m.length 1 4=true:=by
  cases q:rng m.length 1 4
  ·rw [IK q] at h;cases h
  ·rfl
 have h2:rng s.length 1 4=true:=by
  cases q:rng s.length 1 4
  ·rw [IQ q] at h;cases h
  ·rfl
 have h1:=gK.1 h1
 have h2:=gK.1 h2
 omega
theorem yK {m s:List (List Int)} (h:bg m s=true):lM m=true:=by
 cases q:lM m
 ·rw [IL q] at h;cases h
 ·rfl
def srv (s:List (List Int)) (n r:Nat):List Int:=((List.range n).filter fun y=>decide (0<=at2 s r y)).map fun (y:Nat)=>(y:Int)
theorem pX (s:List (List Int)) (n r:Nat):srv s (n+1) r=if 0<=at2 s r n then srv s n r++[(n:Int)] else srv s n r:=by
 unfold srv
 rw [List.range_succ,List.filter_append]
 by_cases h:0<=at2 s r n<;>simp [h]
theorem uJ (s:List (List Int)) (n r:Nat):(srv s n r).length<=n:=by
 unfold srv
 rw [List.length_map]
 exact Nat.le_trans (List.length_filter_le _ _) (by simp)
theorem LD (m s:List (List Int)) (r:Nat) (hr:r<s.length) (hrow:(s.getD r []).length=m.length) (hm:m.length<=1000):Does Tryz.prog 97 [prA m s,.int r] (.imm (.sl (.ints (srv s m.length r)))):=by
 refine aF Tryz.func97 rfl Tryz.ntmps97 aQ (fun _ _=>by kernel_rfl) rfl (Nat.le_of_ble_eq_true rfl) ?_
 intro M0 w0
 rw [Tryz.results97]
 refine ah ?_
 refine aA (α:=Nat) (fun k=>[(15,true,.int k)]) [2,5,13,14] (fun k=>[.box [.b (.sl (.ii m)),.b (.sl (.ii s))],.row 3 (.ints (srv s k r))]) (fun k=>k<=m.length) (fun k=>m.length-k) 0 (by exact bW) (Nat.zero_le _) fun k hk =>?_
 have hl:=uJ s k r
 simp only [xr,simprocAttr]
 refine ah ?_
 refine aj amQ (fun hc =>?_) (fun hc =>?_)
 ·have hk':k<m.length:=by have hc:=of_decide_eq_true hc;omega
  refine ah ?_
  refine aj amQ (fun hd =>?_) (fun hd =>?_)
  ·have hd:0<=at2 s r k:=by simpa [at2] using hd
   refine ah ?_
   refine ⟨k+1,by omega,by omega,.inl ?_⟩
   exact dw (by rw [pX,if_pos hd])
  ·have hd:¬ 0<=at2 s r k:=by simpa [at2] using hd
   refine ah ?_
   refine ⟨k+1,by omega,by omega,.inl ?_⟩
   exact dw (by rw [pX,if_neg hd])
 ·have hk':k=m.length:=by have hc:=of_decide_eq_false hc;omega
  subst hk'
  refine jC ?_
  (refine aK 1 rfl ?_;simp only [xz,simprocAttr])
  refine ah ?_
  refine bJ ?_
  rfl
theorem iC {m s:List (List Int)} (h:bg m s=true) {x:Nat} (hx:x<m.length):(m.getD x []).length=m.length/\∀ y,y<m.length->0<=at2 m x y/\at2 m x y<=99:=by
 have h1:=yK h
 unfold lM at h1
 simp only [Bool.and_eq_true] at h1
 have h2:=h1.1
 unfold dY at h2
 simp only [Bool.and_eq_true] at h2
 refine ⟨?_,fun y hy=>GX h2.2 hx hy⟩
 rw [getD_in hx]
 exact BM.1 h2.1.2 _ (List.getElem_mem hx)
theorem wI {m s:List (List Int)} (h:bg m s=true) {r:Nat} (hr:r<s.length):∀ y,y<m.length -> -1<=at2 s r y/\at2 s r y<=20:=fun y hy=>by
 unfold bg at h
 simp only [Bool.and_eq_true,List.all_eq_true] at h
 have h1:=h.2 _ (List.getElem_mem hr)
 unfold iY at h1
 simp only [Bool.and_eq_true,beq_iff_eq] at h1
 have hy':y<s[r].length:=by omega
 have h2:=jS.1 h1.1.2 _ (List.getElem_mem hy')
 rw [MG hr hy']
 exact h2
theorem Zw (m s:List (List Int)) (x y r:Nat) (hp:bg m s=true) (hx:x<m.length) (hy:y<m.length) (hr:r<s.length):Does Tryz.prog 99 [prA m s,.int x,.int y,.int r] (.imm (.int (at2 m x y+at2 s r y))):=by
 refine aF Tryz.func99 rfl Tryz.ntmps99 aQ (fun _ _=>by kernel_rfl) rfl (Nat.le_of_ble_eq_true rfl) ?_
 intro M0 w0
 rw [Tryz.results99]
 have h1:=kE hp r hr
 have h2:=iC hp hx
 have h3:=h2.2 y hy
 have h4:=wI hp hr y hy
 have h5:=h2.1
 unfold at2 at h3 h4
 refine ah ?_
 refine bJ ?_
 rfl
theorem Ig (m s:List (List Int)) (xs:List Int):Does Tryz.prog 132 [prA m s,.sl (.ints xs)] (.imm (.bool (seqB s.length xs))) :=
 ng (fun _ _=>by kernel_rfl) fun M w us hm ha=>by
  obtain ⟨u,us',rfl,h1,h2⟩:=dK ha
  obtain ⟨u',us'',rfl,h3,h4⟩:=dK h2
  obtain rfl:=iH h4
  obtain ⟨a,b,rfl,h5,h6⟩:=zM h1
  exact Dw w _ u' m s xs ⟨a,b,rfl,mV hm h5,mV hm h6⟩ (yR hm h3)
theorem RP (m s:List (List Int)) (x:Int) (xs:List Int):Does Tryz.prog 84 [prA m s,.int x,.sl (.ints xs)] (.imm (.bool (bH m s x xs))) :=
 ng (fun _ _=>by kernel_rfl) fun M w us hm ha=>by
  obtain ⟨u,us',rfl,h1,h2⟩:=dK ha
  obtain ⟨u',us'',rfl,h3,h4⟩:=dK h2
  obtain ⟨u2,us3,rfl,h7,h8⟩:=dK h4
  obtain rfl:=iH h8
  obtain rfl:u' = .int .i64 x:=h3
  obtain ⟨a,b,rfl,h5,h6⟩:=zM h1
  exact KJ w _ u2 m s x xs ⟨a,b,rfl,mV hm h5,mV hm h6⟩ (yR hm h7)
theorem rZ (m s:List (List Int)) (x:Int) (xs:List Int):Does Tryz.prog 72 [prA m s,.int x,.sl (.ints xs)] (.imm (.bool (bH m s x xs))):=by
 refine aF Tryz.func72 rfl Tryz.ntmps72 aQ (fun _ _=>by kernel_rfl) rfl (Nat.le_of_ble_eq_true rfl) ?_
 intro M0 w0
 rw [Tryz.results72]
 refine ah ?_
 ((try refine Or.inl ?_);refine ⟨_,(Ku _ _),.inl rfl,?_⟩;refine amC ?_)
 refine ah ?_
 ((try refine Or.inl ?_);refine ⟨_,(fun _=>F9 _ _ _),.inl rfl,?_⟩;refine amC ?_)
 refine ah ?_
 ((try refine Or.inl ?_);refine ⟨_,(fun _=>Ig _ _ _),.inl rfl,?_⟩;refine amC ?_)
 refine ah ?_
 refine bJ ?_
 show AV.bool _=AV.bool _
 simp only [Bool.cond_false_right]
 rfl
end Go.Proofs.YtnblieajjclipaaGreat
