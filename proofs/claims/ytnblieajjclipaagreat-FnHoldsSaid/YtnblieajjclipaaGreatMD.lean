/- The program's types, as the abstract machine wants them. Conditions: none. -/
import Derived.Test.YtnblieajjclipaaGreatProg
import Derived.Test.YtnblieajjclipaaGreatMC
set_option linter.all false
namespace Go.Proofs.YtnblieajjclipaaGreat
open Go Go.RowKit Am
abbrev Row:=Nat×Ty×Nat×Nat×List Value
def jR:List Row->Nat->Option (Ty×Nat×Nat×List Value)
 | [],_=>none
 | (s,r)::L,t=>bif Nat.beq t s then some r else jR L t
def XE (L:List Row) (E E2:List Nat):Cfg where
 eqa t:=E.contains t
 eqs t:=E2.contains t
 ty t:=match jR L t with | some r=>r.1 | none => .bad
 sz t:=match jR L t with | some r=>r.2.1 | none=>0
 bytes t:=match jR L t with | some r=>r.2.2.1 | none=>0
 zero t:=match jR L t with | some r=>r.2.2.2 | none=>[]
def aB (P:Program) (r:Row):Prop:=r.2.1.is P r.1/\∃ i,P.info? r.1=some i/\i.size=r.2.2.1/\i.bytes=r.2.2.2.1/\∃ z,i.zero=some z/\z.cells.toList=r.2.2.2.2/\z.cells.size=r.2.2.1
def Xt (P:Program):List Row->Prop
 | []=>True
 | r::L=>aB P r/\Xt P L
theorem CZ {P:Program}:∀ {L:List Row} {t:Nat} {r:Ty×Nat×Nat×List Value},Xt P L->jR L t=some r->aB P (t,r)
 | [],_,_,_,h=>by cases h
 | (s,r')::L,t,r,hL,h=>by
  simp only [jR] at h
  cases e:Nat.beq t s with
  | true =>
   rw [e] at h
   cases h
   rw [Nat.eq_of_beq_eq_true e]
   exact hL.1
  | false =>
   rw [e] at h
   exact CZ hL.2 h
def Xr (P:Program):List Nat->Prop
 | []=>True
 | t::E=>P.eqGuardType P.depth t=false/\Xr P E
theorem Jr {P:Program}:∀ {E:List Nat},Xr P E->∀ t∈E,P.eqGuardType P.depth t=false
 | [],_,t,ht=>by simp at ht
 | u::E,h,t,ht=>by
  rcases List.mem_cons.1 ht with rfl | ht
  ·exact h.1
  ·exact Jr h.2 t ht
def Xu (P:Program) (L:List Row):List Nat->Prop
 | []=>True
 | t :: E => ((match jR L t with | some r => r.2.1 | none => 0) = 2 /\ P.eqGuardType P.depth t = false /\ P.stoodInHeld t = false /\ ∃ f0 f1 : Field, P.underlying t = some (.struct #[f0, f1]) /\ f0.name ≠ "_" /\ f1.name ≠ "_" /\ f0.offset = 0 /\ f1.offset = 1 /\ P.underlying f0.type = some (.int .i64) /\ P.underlying f1.type = some (.int .i64)) /\ Xu P L E
theorem Jt {P:Program} {L:List Row}:∀ {E:List Nat},Xu P L E->∀ t∈E,P.eqGuardType P.depth t=false/\∀ (w:World) (xs ys:List Int),xs.length=(match jR L t with | some r=>r.2.1 | none=>0)->ys.length=(match jR L t with | some r=>r.2.1 | none=>0)->(Op.equal t (.agg (xs.map (Value.int .i64)).toArray) (.agg (ys.map (Value.int .i64)).toArray)).run P w = .ok (decide (xs=ys)) w
 | [],_,t,ht=>by simp at ht
 | u::E,h,t,ht=>by
  rcases List.mem_cons.1 ht with rfl | ht
  ·obtain ⟨⟨h0,h1,h2,f0,f1,h3,h4,h5,h6,h7,h8,h9⟩,_⟩:=h
   refine ⟨h1,fun w xs ys la lb =>?_⟩
   rw [h0] at la lb
   exact aeD h3 h4 h5 h6 h7 h8 h9 h2 w xs ys la lb
  ·exact Jt h.2 t ht
theorem XF {P:Program} {L:List Row} {E E2:List Nat} (h:Xt P L) (hE:Xr P E) (hS:Xu P L E2):jP P (XE L E E2):=⟨fun t=>by
  show Ty.is P t (match jR L t with | some r=>r.1 | none => .bad)
  cases e:jR L t with
  | none=>trivial
  | some r=>exact (CZ h e).1,
 fun t hz=>by
  have hz':(match jR L t with | some r=>r.2.1 | none=>0)≠0:=hz
  show ∃ i,P.info? t=some i/\i.size=(match jR L t with | some r=>r.2.1 | none=>0)/\i.bytes=(match jR L t with | some r=>r.2.2.1 | none=>0)/\∃ z,i.zero=some z/\z.cells.toList=(match jR L t with | some r=>r.2.2.2 | none=>[])/\z.cells.size=(match jR L t with | some r=>r.2.1 | none=>0)
  cases e:jR L t with
  | none=>rw [e] at hz';exact (hz' rfl).elim
  | some r=>exact (CZ h e).2,
 fun t ht=>Jr hE t (by simpa [XE] using ht),fun t ht=>Jt hS t (by simpa [XE] using ht)⟩
theorem ak {P:Program} {t sz by_:Nat} {z:Value} {l:List Value} (h:(P.info? t).map (fun i=>(i.size,i.bytes,i.zero))=some (sz,by_,some z)) (hl:z.cells.toList=l) (hs:z.cells.size=sz) :
  ∃ i,P.info? t=some i/\i.size=sz/\i.bytes=by_/\∃ z,i.zero=some z/\z.cells.toList=l/\z.cells.size=sz:=by
 simp only [Option.map_eq_some_iff,Prod.mk.injEq] at h
 obtain ⟨i,h1,h2,h3,h4⟩:=h
 exact ⟨i,h1,h2,h3,z,h4,hl,hs⟩
def QO (P:Program) (t:Nat) (fs:List (Nat×Nat)):Bool:=match P.underlying t with
 | some (.struct F)=>(F.toList.map fun f=>(f.offset,f.type)) == fs && fs.all fun p=>match P.info? p.2 with | some j => !(j.size == 0) | none=>false
 | _=>false
theorem aO {P:Program} {t:Nat} {fs:List (Nat×Nat)} (h:QO P t fs=true):Ty.is P t (.struct fs):=by
 unfold QO at h
 split at h
 ·rename_i F hF
  simp only [Bool.and_eq_true,beq_iff_eq,List.all_eq_true] at h
  obtain ⟨h1,h2⟩:=h
  refine ⟨F,hF,by rw [← h1];simp,fun i off t' hi =>?_⟩
  have h3:=h2 _ (List.mem_of_getElem? hi)
  rw [← h1,List.getElem?_map] at hi
  simp only [Option.map_eq_some_iff,Array.getElem?_toList,Prod.mk.injEq] at hi
  obtain ⟨f,h4,h5,h6⟩:=hi
  refine ⟨f,h4,h5,h6,?_⟩
  split at h3
  ·rename_i j hj
   exact ⟨j,hj,by simpa using h3⟩
  ·cases h3
 ·cases h
def V8 (P:Program) (t:Nat):Bool:=match P.underlying t with
 | some (.struct _)=>false
 | some (.array _ _)=>false
 | some _=>true
 | none=>false
theorem au {P:Program} {t:Nat} (h:V8 P t=true):Ty.is P t .plain:=by
 unfold V8 at h
 split at h
 ·cases h
 ·cases h
 ·rename_i d h1 h2 hd
  exact ⟨d,hd,fun F e=>h1 F e,fun n e' e=>h2 n e' e⟩
 ·cases h
theorem U5 {P:Program} {t:Nat} (h:P.underlying t=some (.int .i64)):Ty.is P t .int:=h
theorem XC {P:Program} {t:Nat} (h:P.underlying t=some .bool):Ty.is P t .bool:=h
theorem fE {P:Program} {t e:Nat} (h:P.underlying t=some (.slice e)):Ty.is P t (.slice e):=h
theorem Zp {P:Program} {t n e:Nat} (h:P.underlying t=some (.array n e)):Ty.is P t (.arr n e):=h
def rows:List Row:=[
 (1,.plain,1,8,[(.nilFunc)]),
 (2,.int,1,8,[(.int .i64 0)]),
 (3,.int,1,8,[(.int .i64 0)]),
 (4,.bool,1,1,[(.bool false)]),
 (5,.plain,1,1,[(.int .u8 0)]),
 (6,.plain,1,1,[(.int .u8 0)]),
 (7,(.struct [(0,2),(1,3),(2,4),(3,6)]),4,24,[(.int .i64 0),(.int .i64 0),(.bool false),(.int .u8 0)]),
 (8,(.struct [(0,2),(1,3),(2,4),(3,6)]),4,24,[(.int .i64 0),(.int .i64 0),(.bool false),(.int .u8 0)]),
 (9,.plain,1,16,[(.string ⟨#[]⟩)]),
 (10,.plain,1,16,[(.string ⟨#[]⟩)]),
 (11,.plain,1,16,[(.string ⟨#[]⟩)]),
 (12,.plain,1,8,[(.int .u64 0)]),
 (13,(.struct [(0,9),(1,12)]),2,24,[(.string ⟨#[]⟩),(.int .u64 0)]),
 (14,(.struct [(0,9),(1,12)]),2,24,[(.string ⟨#[]⟩),(.int .u64 0)]),
 (15,.plain,1,8,[(.pointer none)]),
 (16,.plain,1,8,[(.pointer none)]),
 (17,.plain,1,8,[(.pointer none)]),
 (18,(.struct [(0,17)]),1,8,[(.pointer none)]),
 (19,(.struct [(0,17)]),1,8,[(.pointer none)]),
 (21,.plain,1,4,[(.int .i32 0)]),
 (22,(.slice 26),1,24,[(.slice none 0 0)]),
 (23,(.struct [(0,22),(1,22)]),2,48,[(.slice none 0 0),(.slice none 0 0)]),
 (24,(.struct [(0,22),(1,22)]),2,48,[(.slice none 0 0),(.slice none 0 0)]),
 (25,.plain,1,8,[(.nilFunc)]),
 (26,(.slice 3),1,24,[(.slice none 0 0)]),
 (28,.plain,1,8,[(.nilFunc)]),
 (29,(.struct [(0,22),(1,22)]),2,48,[(.slice none 0 0),(.slice none 0 0)]),
 (30,.plain,1,8,[(.nilFunc)]),
 (31,.plain,1,8,[(.nilFunc)]),
 (32,.plain,1,8,[(.nilFunc)]),
 (33,.plain,1,8,[(.nilFunc)]),
 (34,.plain,1,8,[(.nilFunc)]),
 (35,.plain,1,8,[(.nilFunc)]),
 (36,(.slice 5),1,24,[(.slice none 0 0)]),
 (37,.plain,1,8,[(.nilFunc)]),
 (38,(.struct [(0,3),(1,3)]),2,16,[(.int .i64 0),(.int .i64 0)]),
 (39,(.struct [(0,3),(1,3)]),2,16,[(.int .i64 0),(.int .i64 0)]),
 (41,.plain,1,8,[(.nilFunc)]),
 (43,.plain,1,8,[(.nilFunc)]),
 (45,.plain,1,8,[(.nilFunc)]),
 (46,.plain,1,8,[(.nilFunc)]),
 (47,(.slice 112),1,24,[(.slice none 0 0)]),
 (49,.plain,1,8,[(.nilFunc)]),
 (50,.plain,1,8,[(.nilFunc)]),
 (52,.plain,1,8,[(.nilFunc)]),
 (54,.plain,1,8,[(.nilFunc)]),
 (56,.plain,1,8,[(.nilFunc)]),
 (58,.plain,1,8,[(.nilFunc)]),
 (60,.plain,1,8,[(.nilFunc)]),
 (61,.plain,1,8,[(.nilFunc)]),
 (62,.plain,1,8,[(.nilFunc)]),
 (64,.plain,1,8,[(.nilFunc)]),
 (65,.plain,1,8,[(.nilFunc)]),
 (66,.plain,1,8,[(.nilFunc)]),
 (67,.plain,1,8,[(.nilFunc)]),
 (68,(.slice 121),1,24,[(.slice none 0 0)]),
 (69,(.struct [(0,47),(1,68),(2,4)]),3,56,[(.slice none 0 0),(.slice none 0 0),(.bool false)]),
 (70,(.struct [(0,47),(1,68),(2,4)]),3,56,[(.slice none 0 0),(.slice none 0 0),(.bool false)]),
 (72,.plain,1,8,[(.nilFunc)]),
 (73,.plain,1,8,[(.nilFunc)]),
 (74,.plain,1,8,[(.nilFunc)]),
 (75,(.struct [(0,3),(1,3)]),2,16,[(.int .i64 0),(.int .i64 0)]),
 (76,(.struct [(0,3),(1,3)]),2,16,[(.int .i64 0),(.int .i64 0)]),
 (77,.plain,1,8,[(.nilFunc)]),
 (78,.plain,1,8,[(.nilFunc)]),
 (79,.plain,1,8,[(.nilFunc)]),
 (80,.plain,1,8,[(.pointer none)]),
 (82,.plain,1,8,[(.nilFunc)]),
 (83,.plain,1,8,[(.nilFunc)]),
 (84,.plain,1,8,[(.nilFunc)]),
 (85,.plain,1,8,[(.nilFunc)]),
 (86,.plain,1,8,[(.pointer none)]),
 (87,.plain,1,8,[(.int .u64 0)]),
 (88,(.struct [(0,36),(1,3),(2,87)]),3,40,[(.slice none 0 0),(.int .i64 0),(.int .u64 0)]),
 (89,(.struct [(0,36),(1,3),(2,87)]),3,40,[(.slice none 0 0),(.int .i64 0),(.int .u64 0)]),
 (90,.plain,1,8,[(.nilFunc)]),
 (91,.plain,1,8,[(.nilFunc)]),
 (92,.plain,1,8,[(.nilFunc)]),
 (93,.plain,1,8,[(.nilFunc)]),
 (94,.plain,1,8,[(.nilFunc)]),
 (95,.plain,1,8,[(.nilFunc)]),
 (96,.plain,1,8,[(.nilFunc)]),
 (97,(.slice 101),1,24,[(.slice none 0 0)]),
 (98,(.struct [(0,47),(1,97)]),2,48,[(.slice none 0 0),(.slice none 0 0)]),
 (99,(.struct [(0,47),(1,97)]),2,48,[(.slice none 0 0),(.slice none 0 0)]),
 (100,(.slice 105),1,24,[(.slice none 0 0)]),
 (101,(.slice 100),1,24,[(.slice none 0 0)]),
 (102,(.struct [(0,3),(1,3),(2,3),(3,3)]),4,32,[(.int .i64 0),(.int .i64 0),(.int .i64 0),(.int .i64 0)]),
 (103,(.struct [(0,3),(1,3),(2,3),(3,3)]),4,32,[(.int .i64 0),(.int .i64 0),(.int .i64 0),(.int .i64 0)]),
 (104,(.struct [(0,103),(4,3),(5,3)]),6,48,[(.int .i64 0),(.int .i64 0),(.int .i64 0),(.int .i64 0),(.int .i64 0),(.int .i64 0)]),
 (105,(.struct [(0,103),(4,3),(5,3)]),6,48,[(.int .i64 0),(.int .i64 0),(.int .i64 0),(.int .i64 0),(.int .i64 0),(.int .i64 0)]),
 (106,.plain,1,8,[(.nilFunc)]),
 (107,.plain,1,8,[(.nilFunc)]),
 (108,.plain,1,8,[(.nilFunc)]),
 (109,.plain,1,8,[(.nilFunc)]),
 (110,.plain,1,8,[(.nilFunc)]),
 (111,.plain,1,8,[(.nilFunc)]),
 (112,(.arr 2 3),2,16,[(.int .i64 0),(.int .i64 0)]),
 (113,.plain,1,8,[(.nilFunc)]),
 (114,.plain,1,8,[(.nilFunc)]),
 (115,.plain,1,8,[(.nilFunc)]),
 (116,.plain,1,8,[(.nilFunc)]),
 (117,.plain,1,8,[(.nilFunc)]),
 (118,.plain,1,8,[(.nilFunc)]),
 (119,.plain,1,8,[(.nilFunc)]),
 (120,(.slice 123),1,24,[(.slice none 0 0)]),
 (121,(.slice 120),1,24,[(.slice none 0 0)]),
 (122,(.struct [(0,3),(1,3),(2,3),(3,3)]),4,32,[(.int .i64 0),(.int .i64 0),(.int .i64 0),(.int .i64 0)]),
 (123,(.struct [(0,3),(1,3),(2,3),(3,3)]),4,32,[(.int .i64 0),(.int .i64 0),(.int .i64 0),(.int .i64 0)]),
 (124,.plain,1,8,[(.nilFunc)]),
 (125,.plain,1,8,[(.nilFunc)]),
 (126,.plain,1,8,[(.nilFunc)]),
 (127,.plain,1,8,[(.nilFunc)]),
 (128,.plain,1,8,[(.nilFunc)]),
 (129,.plain,1,8,[(.nilFunc)]),
 (130,.plain,1,8,[(.nilFunc)]),
 (131,.plain,1,8,[(.pointer none)]),
 (133,.plain,1,8,[(.nilFunc)]),
 (134,.plain,1,8,[(.nilFunc)]),
 (135,.plain,1,8,[(.nilFunc)]),
 (136,.plain,1,8,[(.nilFunc)]),
 (137,.plain,1,8,[(.nilFunc)]),
 (138,.plain,1,8,[(.nilFunc)]),
 (139,(.slice 186),1,24,[(.slice none 0 0)]),
 (140,.plain,1,8,[(.nilFunc)]),
 (141,.plain,1,8,[(.nilFunc)]),
 (142,.plain,1,8,[(.nilFunc)]),
 (143,.plain,1,8,[(.nilFunc)]),
 (145,.plain,1,8,[(.nilFunc)]),
 (146,.plain,1,8,[(.nilFunc)]),
 (147,.plain,1,8,[(.nilFunc)]),
 (148,.plain,1,8,[(.nilFunc)]),
 (150,.plain,1,8,[(.pointer none)]),
 (151,.plain,1,8,[(.nilFunc)]),
 (152,.plain,1,8,[(.nilFunc)]),
 (153,.plain,1,8,[(.nilFunc)]),
 (154,(.slice 103),1,24,[(.slice none 0 0)]),
 (156,.plain,1,8,[(.nilFunc)]),
 (157,.plain,1,8,[(.nilFunc)]),
 (159,.plain,1,8,[(.nilFunc)]),
 (160,.plain,1,8,[(.nilFunc)]),
 (161,.plain,1,8,[(.nilFunc)]),
 (162,.plain,1,8,[(.nilFunc)]),
 (163,.plain,1,8,[(.nilFunc)]),
 (164,(.struct [(0,22)]),1,24,[(.slice none 0 0)]),
 (165,(.struct [(0,22)]),1,24,[(.slice none 0 0)]),
 (166,.plain,1,8,[(.nilFunc)]),
 (167,.plain,1,8,[(.nilFunc)]),
 (168,.plain,1,8,[(.nilFunc)]),
 (169,.plain,1,8,[(.nilFunc)]),
 (170,.plain,1,8,[(.nilFunc)]),
 (171,.plain,1,8,[(.nilFunc)]),
 (172,.plain,1,8,[(.nilFunc)]),
 (173,.plain,1,8,[(.nilFunc)]),
 (174,.plain,1,8,[(.nilFunc)]),
 (175,.plain,1,8,[(.nilFunc)]),
 (176,.plain,1,8,[(.nilFunc)]),
 (177,.plain,1,8,[(.nilFunc)]),
 (178,.plain,1,8,[(.nilFunc)]),
 (179,(.struct [(0,47),(1,154),(2,3)]),3,56,[(.slice none 0 0),(.slice none 0 0),(.int .i64 0)]),
 (180,(.struct [(0,47),(1,154),(2,3)]),3,56,[(.slice none 0 0),(.slice none 0 0),(.int .i64 0)]),
 (181,(.struct [(0,22),(1,22),(2,22),(3,4)]),4,80,[(.slice none 0 0),(.slice none 0 0),(.slice none 0 0),(.bool false)]),
 (182,(.struct [(0,22),(1,22),(2,22),(3,4)]),4,80,[(.slice none 0 0),(.slice none 0 0),(.slice none 0 0),(.bool false)]),
 (183,.plain,1,8,[(.nilFunc)]),
 (184,.plain,1,8,[(.nilFunc)]),
 (185,.plain,1,8,[(.nilFunc)]),
 (186,(.slice 4),1,24,[(.slice none 0 0)]),
 (187,.plain,1,8,[(.nilFunc)]),
 (188,(.slice 192),1,24,[(.slice none 0 0)]),
 (189,(.struct [(0,186),(1,188)]),2,48,[(.slice none 0 0),(.slice none 0 0)]),
 (190,(.struct [(0,186),(1,188)]),2,48,[(.slice none 0 0),(.slice none 0 0)]),
 (191,.plain,1,8,[(.nilFunc)]),
 (192,(.slice 194),1,24,[(.slice none 0 0)]),
 (193,(.struct [(0,3),(1,3)]),2,16,[(.int .i64 0),(.int .i64 0)]),
 (194,(.struct [(0,3),(1,3)]),2,16,[(.int .i64 0),(.int .i64 0)]),
 (195,.plain,1,8,[(.nilFunc)]),
 (196,.plain,1,8,[(.int .u64 0)]),
 (198,.plain,1,8,[(.nilFunc)]),
 (199,.plain,1,8,[(.nilFunc)]),
 (200,.plain,1,8,[(.nilFunc)]),
 (201,.plain,1,8,[(.nilFunc)]),
 (202,.plain,1,8,[(.nilFunc)]),
 (203,.plain,1,8,[(.nilFunc)]),
 (204,.plain,1,8,[(.nilFunc)]),
 (205,.plain,1,8,[(.nilFunc)]),
 (206,.plain,1,8,[(.nilFunc)]),
 (207,.plain,1,8,[(.nilFunc)]),
 (208,.plain,1,8,[(.nilFunc)]),
 (209,.plain,1,8,[(.nilFunc)]),
 (210,.plain,1,8,[(.nilFunc)]),
 (211,.plain,1,8,[(.nilFunc)]),
 (212,(.slice 214),1,24,[(.slice none 0 0)]),
 (213,(.struct [(0,4),(1,3),(2,3)]),3,24,[(.bool false),(.int .i64 0),(.int .i64 0)]),
 (214,(.struct [(0,4),(1,3),(2,3)]),3,24,[(.bool false),(.int .i64 0),(.int .i64 0)]),
 (215,.plain,1,8,[(.nilFunc)]),
 (216,.plain,1,4,[(.int .u32 0)]),
 (218,.plain,1,8,[(.nilFunc)]),
 (220,.plain,1,8,[(.nilFunc)]),
 (221,.plain,1,8,[(.nilFunc)]),
 (222,.plain,1,8,[(.nilFunc)]),
 (223,.plain,1,8,[(.nilFunc)]),
 (224,.plain,1,8,[(.nilFunc)]),
 (225,.plain,1,8,[(.nilFunc)]),
 (226,.plain,1,8,[(.nilFunc)]),
 (227,(.struct [(0,17),(1,17),(2,17),(3,9)]),4,40,[(.pointer none),(.pointer none),(.pointer none),(.string ⟨#[]⟩)]),
 (228,(.struct [(0,17),(1,17),(2,17),(3,9)]),4,40,[(.pointer none),(.pointer none),(.pointer none),(.string ⟨#[]⟩)]),
 (232,.plain,1,1,[(.int .u8 0)]),
 (233,.plain,1,1,[(.int .u8 0)]),
 (234,.plain,1,8,[(.nilFunc)]),
 (235,.plain,1,8,[(.pointer none)]),
 (236,.plain,1,4,[(.int .i32 0)]),
 (237,.plain,1,4,[(.int .i32 0)]),
 (238,(.struct [(0,12),(1,12),(2,216),(3,232),(4,5),(5,5),(6,233),(7,234),(8,235),(9,236),(10,237)]),11,48,[(.int .u64 0),(.int .u64 0),(.int .u32 0),(.int .u8 0),(.int .u8 0),(.int .u8 0),(.int .u8 0),(.nilFunc),(.pointer none),(.int .i32 0),(.int .i32 0)]),
 (239,(.struct [(0,12),(1,12),(2,216),(3,232),(4,5),(5,5),(6,233),(7,234),(8,235),(9,236),(10,237)]),11,48,[(.int .u64 0),(.int .u64 0),(.int .u32 0),(.int .u8 0),(.int .u8 0),(.int .u8 0),(.int .u8 0),(.nilFunc),(.pointer none),(.int .i32 0),(.int .i32 0)])]
theorem aeH:aB Tryz.prog (1,.plain,1,8,[(.nilFunc)]):=⟨au (by kernel_rfl),ak (z:=(.nilFunc)) (by kernel_rfl) rfl rfl⟩
theorem aeI:aB Tryz.prog (2,.int,1,8,[(.int .i64 0)]):=⟨U5 (by kernel_rfl),ak (z:=(.int .i64 0)) (by kernel_rfl) rfl rfl⟩
theorem row3:aB Tryz.prog (3,.int,1,8,[(.int .i64 0)]):=⟨U5 (by kernel_rfl),ak (z:=(.int .i64 0)) (by kernel_rfl) rfl rfl⟩
theorem row4:aB Tryz.prog (4,.bool,1,1,[(.bool false)]):=⟨XC (by kernel_rfl),ak (z:=(.bool false)) (by kernel_rfl) rfl rfl⟩
theorem aeJ:aB Tryz.prog (5,.plain,1,1,[(.int .u8 0)]):=⟨au (by kernel_rfl),ak (z:=(.int .u8 0)) (by kernel_rfl) rfl rfl⟩
theorem aeK:aB Tryz.prog (6,.plain,1,1,[(.int .u8 0)]):=⟨au (by kernel_rfl),ak (z:=(.int .u8 0)) (by kernel_rfl) rfl rfl⟩
theorem aeL:aB Tryz.prog (7,(.struct [(0,2),(1,3),(2,4),(3,6)]),4,24,[(.int .i64 0),(.int .i64 0),(.bool false),(.int .u8 0)]):=⟨aO (by kernel_rfl),ak (z:=(.agg #[(.int .i64 0),(.int .i64 0),(.bool false),(.int .u8 0)])) (by kernel_rfl) rfl rfl⟩
theorem aeM:aB Tryz.prog (8,(.struct [(0,2),(1,3),(2,4),(3,6)]),4,24,[(.int .i64 0),(.int .i64 0),(.bool false),(.int .u8 0)]):=⟨aO (by kernel_rfl),ak (z:=(.agg #[(.int .i64 0),(.int .i64 0),(.bool false),(.int .u8 0)])) (by kernel_rfl) rfl rfl⟩
theorem aeN:aB Tryz.prog (9,.plain,1,16,[(.string ⟨#[]⟩)]):=⟨au (by kernel_rfl),ak (z:=(.string ⟨#[]⟩)) (by kernel_rfl) rfl rfl⟩
theorem ac6:aB Tryz.prog (10,.plain,1,16,[(.string ⟨#[]⟩)]):=⟨au (by kernel_rfl),ak (z:=(.string ⟨#[]⟩)) (by kernel_rfl) rfl rfl⟩
theorem ac7:aB Tryz.prog (11,.plain,1,16,[(.string ⟨#[]⟩)]):=⟨au (by kernel_rfl),ak (z:=(.string ⟨#[]⟩)) (by kernel_rfl) rfl rfl⟩
theorem ac8:aB Tryz.prog (12,.plain,1,8,[(.int .u64 0)]):=⟨au (by kernel_rfl),ak (z:=(.int .u64 0)) (by kernel_rfl) rfl rfl⟩
theorem ac9:aB Tryz.prog (13,(.struct [(0,9),(1,12)]),2,24,[(.string ⟨#[]⟩),(.int .u64 0)]):=⟨aO (by kernel_rfl),ak (z:=(.agg #[(.string ⟨#[]⟩),(.int .u64 0)])) (by kernel_rfl) rfl rfl⟩
theorem ada:aB Tryz.prog (14,(.struct [(0,9),(1,12)]),2,24,[(.string ⟨#[]⟩),(.int .u64 0)]):=⟨aO (by kernel_rfl),ak (z:=(.agg #[(.string ⟨#[]⟩),(.int .u64 0)])) (by kernel_rfl) rfl rfl⟩
theorem adb:aB Tryz.prog (15,.plain,1,8,[(.pointer none)]):=⟨au (by kernel_rfl),ak (z:=(.pointer none)) (by kernel_rfl) rfl rfl⟩
theorem ade:aB Tryz.prog (16,.plain,1,8,[(.pointer none)]):=⟨au (by kernel_rfl),ak (z:=(.pointer none)) (by kernel_rfl) rfl rfl⟩
theorem adf:aB Tryz.prog (17,.plain,1,8,[(.pointer none)]):=⟨au (by kernel_rfl),ak (z:=(.pointer none)) (by kernel_rfl) rfl rfl⟩
theorem adg:aB Tryz.prog (18,(.struct [(0,17)]),1,8,[(.pointer none)]):=⟨aO (by kernel_rfl),ak (z:=(.agg #[(.pointer none)])) (by kernel_rfl) rfl rfl⟩
theorem adh:aB Tryz.prog (19,(.struct [(0,17)]),1,8,[(.pointer none)]):=⟨aO (by kernel_rfl),ak (z:=(.agg #[(.pointer none)])) (by kernel_rfl) rfl rfl⟩
theorem adi:aB Tryz.prog (21,.plain,1,4,[(.int .i32 0)]):=⟨au (by kernel_rfl),ak (z:=(.int .i32 0)) (by kernel_rfl) rfl rfl⟩
theorem row22:aB Tryz.prog (22,(.slice 26),1,24,[(.slice none 0 0)]):=⟨fE (by kernel_rfl),ak (z:=(.slice none 0 0)) (by kernel_rfl) rfl rfl⟩
theorem row23:aB Tryz.prog (23,(.struct [(0,22),(1,22)]),2,48,[(.slice none 0 0),(.slice none 0 0)]):=⟨aO (by kernel_rfl),ak (z:=(.agg #[(.slice none 0 0),(.slice none 0 0)])) (by kernel_rfl) rfl rfl⟩
theorem row24:aB Tryz.prog (24,(.struct [(0,22),(1,22)]),2,48,[(.slice none 0 0),(.slice none 0 0)]):=⟨aO (by kernel_rfl),ak (z:=(.agg #[(.slice none 0 0),(.slice none 0 0)])) (by kernel_rfl) rfl rfl⟩
theorem row25:aB Tryz.prog (25,.plain,1,8,[(.nilFunc)]):=⟨au (by kernel_rfl),ak (z:=(.nilFunc)) (by kernel_rfl) rfl rfl⟩
theorem row26:aB Tryz.prog (26,(.slice 3),1,24,[(.slice none 0 0)]):=⟨fE (by kernel_rfl),ak (z:=(.slice none 0 0)) (by kernel_rfl) rfl rfl⟩
theorem row28:aB Tryz.prog (28,.plain,1,8,[(.nilFunc)]):=⟨au (by kernel_rfl),ak (z:=(.nilFunc)) (by kernel_rfl) rfl rfl⟩
theorem adk:aB Tryz.prog (29,(.struct [(0,22),(1,22)]),2,48,[(.slice none 0 0),(.slice none 0 0)]):=⟨aO (by kernel_rfl),ak (z:=(.agg #[(.slice none 0 0),(.slice none 0 0)])) (by kernel_rfl) rfl rfl⟩
theorem row30:aB Tryz.prog (30,.plain,1,8,[(.nilFunc)]):=⟨au (by kernel_rfl),ak (z:=(.nilFunc)) (by kernel_rfl) rfl rfl⟩
theorem adl:aB Tryz.prog (31,.plain,1,8,[(.nilFunc)]):=⟨au (by kernel_rfl),ak (z:=(.nilFunc)) (by kernel_rfl) rfl rfl⟩
theorem row32:aB Tryz.prog (32,.plain,1,8,[(.nilFunc)]):=⟨au (by kernel_rfl),ak (z:=(.nilFunc)) (by kernel_rfl) rfl rfl⟩
theorem adn:aB Tryz.prog (33,.plain,1,8,[(.nilFunc)]):=⟨au (by kernel_rfl),ak (z:=(.nilFunc)) (by kernel_rfl) rfl rfl⟩
theorem row34:aB Tryz.prog (34,.plain,1,8,[(.nilFunc)]):=⟨au (by kernel_rfl),ak (z:=(.nilFunc)) (by kernel_rfl) rfl rfl⟩
theorem row35:aB Tryz.prog (35,.plain,1,8,[(.nilFunc)]):=⟨au (by kernel_rfl),ak (z:=(.nilFunc)) (by kernel_rfl) rfl rfl⟩
theorem ado:aB Tryz.prog (36,(.slice 5),1,24,[(.slice none 0 0)]):=⟨fE (by kernel_rfl),ak (z:=(.slice none 0 0)) (by kernel_rfl) rfl rfl⟩
theorem adp:aB Tryz.prog (37,.plain,1,8,[(.nilFunc)]):=⟨au (by kernel_rfl),ak (z:=(.nilFunc)) (by kernel_rfl) rfl rfl⟩
theorem row38:aB Tryz.prog (38,(.struct [(0,3),(1,3)]),2,16,[(.int .i64 0),(.int .i64 0)]):=⟨aO (by kernel_rfl),ak (z:=(.agg #[(.int .i64 0),(.int .i64 0)])) (by kernel_rfl) rfl rfl⟩
theorem row39:aB Tryz.prog (39,(.struct [(0,3),(1,3)]),2,16,[(.int .i64 0),(.int .i64 0)]):=⟨aO (by kernel_rfl),ak (z:=(.agg #[(.int .i64 0),(.int .i64 0)])) (by kernel_rfl) rfl rfl⟩
theorem adq:aB Tryz.prog (41,.plain,1,8,[(.nilFunc)]):=⟨au (by kernel_rfl),ak (z:=(.nilFunc)) (by kernel_rfl) rfl rfl⟩
theorem ads:aB Tryz.prog (43,.plain,1,8,[(.nilFunc)]):=⟨au (by kernel_rfl),ak (z:=(.nilFunc)) (by kernel_rfl) rfl rfl⟩
theorem row45:aB Tryz.prog (45,.plain,1,8,[(.nilFunc)]):=⟨au (by kernel_rfl),ak (z:=(.nilFunc)) (by kernel_rfl) rfl rfl⟩
theorem adt:aB Tryz.prog (46,.plain,1,8,[(.nilFunc)]):=⟨au (by kernel_rfl),ak (z:=(.nilFunc)) (by kernel_rfl) rfl rfl⟩
theorem row47:aB Tryz.prog (47,(.slice 112),1,24,[(.slice none 0 0)]):=⟨fE (by kernel_rfl),ak (z:=(.slice none 0 0)) (by kernel_rfl) rfl rfl⟩
theorem adu:aB Tryz.prog (49,.plain,1,8,[(.nilFunc)]):=⟨au (by kernel_rfl),ak (z:=(.nilFunc)) (by kernel_rfl) rfl rfl⟩
theorem adw:aB Tryz.prog (50,.plain,1,8,[(.nilFunc)]):=⟨au (by kernel_rfl),ak (z:=(.nilFunc)) (by kernel_rfl) rfl rfl⟩
theorem adx:aB Tryz.prog (52,.plain,1,8,[(.nilFunc)]):=⟨au (by kernel_rfl),ak (z:=(.nilFunc)) (by kernel_rfl) rfl rfl⟩
theorem ady:aB Tryz.prog (54,.plain,1,8,[(.nilFunc)]):=⟨au (by kernel_rfl),ak (z:=(.nilFunc)) (by kernel_rfl) rfl rfl⟩
theorem adz:aB Tryz.prog (56,.plain,1,8,[(.nilFunc)]):=⟨au (by kernel_rfl),ak (z:=(.nilFunc)) (by kernel_rfl) rfl rfl⟩
theorem adA:aB Tryz.prog (58,.plain,1,8,[(.nilFunc)]):=⟨au (by kernel_rfl),ak (z:=(.nilFunc)) (by kernel_rfl) rfl rfl⟩
theorem adB:aB Tryz.prog (60,.plain,1,8,[(.nilFunc)]):=⟨au (by kernel_rfl),ak (z:=(.nilFunc)) (by kernel_rfl) rfl rfl⟩
theorem adC:aB Tryz.prog (61,.plain,1,8,[(.nilFunc)]):=⟨au (by kernel_rfl),ak (z:=(.nilFunc)) (by kernel_rfl) rfl rfl⟩
theorem adD:aB Tryz.prog (62,.plain,1,8,[(.nilFunc)]):=⟨au (by kernel_rfl),ak (z:=(.nilFunc)) (by kernel_rfl) rfl rfl⟩
theorem adE:aB Tryz.prog (64,.plain,1,8,[(.nilFunc)]):=⟨au (by kernel_rfl),ak (z:=(.nilFunc)) (by kernel_rfl) rfl rfl⟩
theorem adF:aB Tryz.prog (65,.plain,1,8,[(.nilFunc)]):=⟨au (by kernel_rfl),ak (z:=(.nilFunc)) (by kernel_rfl) rfl rfl⟩
theorem adG:aB Tryz.prog (66,.plain,1,8,[(.nilFunc)]):=⟨au (by kernel_rfl),ak (z:=(.nilFunc)) (by kernel_rfl) rfl rfl⟩
theorem adH:aB Tryz.prog (67,.plain,1,8,[(.nilFunc)]):=⟨au (by kernel_rfl),ak (z:=(.nilFunc)) (by kernel_rfl) rfl rfl⟩
theorem adI:aB Tryz.prog (68,(.slice 121),1,24,[(.slice none 0 0)]):=⟨fE (by kernel_rfl),ak (z:=(.slice none 0 0)) (by kernel_rfl) rfl rfl⟩
theorem adJ:aB Tryz.prog (69,(.struct [(0,47),(1,68),(2,4)]),3,56,[(.slice none 0 0),(.slice none 0 0),(.bool false)]):=⟨aO (by kernel_rfl),ak (z:=(.agg #[(.slice none 0 0),(.slice none 0 0),(.bool false)])) (by kernel_rfl) rfl rfl⟩
theorem adK:aB Tryz.prog (70,(.struct [(0,47),(1,68),(2,4)]),3,56,[(.slice none 0 0),(.slice none 0 0),(.bool false)]):=⟨aO (by kernel_rfl),ak (z:=(.agg #[(.slice none 0 0),(.slice none 0 0),(.bool false)])) (by kernel_rfl) rfl rfl⟩
theorem adL:aB Tryz.prog (72,.plain,1,8,[(.nilFunc)]):=⟨au (by kernel_rfl),ak (z:=(.nilFunc)) (by kernel_rfl) rfl rfl⟩
theorem adM:aB Tryz.prog (73,.plain,1,8,[(.nilFunc)]):=⟨au (by kernel_rfl),ak (z:=(.nilFunc)) (by kernel_rfl) rfl rfl⟩
theorem adN:aB Tryz.prog (74,.plain,1,8,[(.nilFunc)]):=⟨au (by kernel_rfl),ak (z:=(.nilFunc)) (by kernel_rfl) rfl rfl⟩
theorem adO:aB Tryz.prog (75,(.struct [(0,3),(1,3)]),2,16,[(.int .i64 0),(.int .i64 0)]):=⟨aO (by kernel_rfl),ak (z:=(.agg #[(.int .i64 0),(.int .i64 0)])) (by kernel_rfl) rfl rfl⟩
theorem adP:aB Tryz.prog (76,(.struct [(0,3),(1,3)]),2,16,[(.int .i64 0),(.int .i64 0)]):=⟨aO (by kernel_rfl),ak (z:=(.agg #[(.int .i64 0),(.int .i64 0)])) (by kernel_rfl) rfl rfl⟩
theorem adQ:aB Tryz.prog (77,.plain,1,8,[(.nilFunc)]):=⟨au (by kernel_rfl),ak (z:=(.nilFunc)) (by kernel_rfl) rfl rfl⟩
theorem adR:aB Tryz.prog (78,.plain,1,8,[(.nilFunc)]):=⟨au (by kernel_rfl),ak (z:=(.nilFunc)) (by kernel_rfl) rfl rfl⟩
theorem adT:aB Tryz.prog (79,.plain,1,8,[(.nilFunc)]):=⟨au (by kernel_rfl),ak (z:=(.nilFunc)) (by kernel_rfl) rfl rfl⟩
theorem adU:aB Tryz.prog (80,.plain,1,8,[(.pointer none)]):=⟨au (by kernel_rfl),ak (z:=(.pointer none)) (by kernel_rfl) rfl rfl⟩
theorem adV:aB Tryz.prog (82,.plain,1,8,[(.nilFunc)]):=⟨au (by kernel_rfl),ak (z:=(.nilFunc)) (by kernel_rfl) rfl rfl⟩
theorem adW:aB Tryz.prog (83,.plain,1,8,[(.nilFunc)]):=⟨au (by kernel_rfl),ak (z:=(.nilFunc)) (by kernel_rfl) rfl rfl⟩
theorem adX:aB Tryz.prog (84,.plain,1,8,[(.nilFunc)]):=⟨au (by kernel_rfl),ak (z:=(.nilFunc)) (by kernel_rfl) rfl rfl⟩
theorem adY:aB Tryz.prog (85,.plain,1,8,[(.nilFunc)]):=⟨au (by kernel_rfl),ak (z:=(.nilFunc)) (by kernel_rfl) rfl rfl⟩
theorem adZ:aB Tryz.prog (86,.plain,1,8,[(.pointer none)]):=⟨au (by kernel_rfl),ak (z:=(.pointer none)) (by kernel_rfl) rfl rfl⟩
theorem ad1:aB Tryz.prog (87,.plain,1,8,[(.int .u64 0)]):=⟨au (by kernel_rfl),ak (z:=(.int .u64 0)) (by kernel_rfl) rfl rfl⟩
theorem ad2:aB Tryz.prog (88,(.struct [(0,36),(1,3),(2,87)]),3,40,[(.slice none 0 0),(.int .i64 0),(.int .u64 0)]):=⟨aO (by kernel_rfl),ak (z:=(.agg #[(.slice none 0 0),(.int .i64 0),(.int .u64 0)])) (by kernel_rfl) rfl rfl⟩
theorem ad3:aB Tryz.prog (89,(.struct [(0,36),(1,3),(2,87)]),3,40,[(.slice none 0 0),(.int .i64 0),(.int .u64 0)]):=⟨aO (by kernel_rfl),ak (z:=(.agg #[(.slice none 0 0),(.int .i64 0),(.int .u64 0)])) (by kernel_rfl) rfl rfl⟩
theorem ad4:aB Tryz.prog (90,.plain,1,8,[(.nilFunc)]):=⟨au (by kernel_rfl),ak (z:=(.nilFunc)) (by kernel_rfl) rfl rfl⟩
theorem ad5:aB Tryz.prog (91,.plain,1,8,[(.nilFunc)]):=⟨au (by kernel_rfl),ak (z:=(.nilFunc)) (by kernel_rfl) rfl rfl⟩
theorem ad6:aB Tryz.prog (92,.plain,1,8,[(.nilFunc)]):=⟨au (by kernel_rfl),ak (z:=(.nilFunc)) (by kernel_rfl) rfl rfl⟩
theorem ad7:aB Tryz.prog (93,.plain,1,8,[(.nilFunc)]):=⟨au (by kernel_rfl),ak (z:=(.nilFunc)) (by kernel_rfl) rfl rfl⟩
theorem ad8:aB Tryz.prog (94,.plain,1,8,[(.nilFunc)]):=⟨au (by kernel_rfl),ak (z:=(.nilFunc)) (by kernel_rfl) rfl rfl⟩
theorem ad9:aB Tryz.prog (95,.plain,1,8,[(.nilFunc)]):=⟨au (by kernel_rfl),ak (z:=(.nilFunc)) (by kernel_rfl) rfl rfl⟩
theorem aea:aB Tryz.prog (96,.plain,1,8,[(.nilFunc)]):=⟨au (by kernel_rfl),ak (z:=(.nilFunc)) (by kernel_rfl) rfl rfl⟩
theorem aeb:aB Tryz.prog (97,(.slice 101),1,24,[(.slice none 0 0)]):=⟨fE (by kernel_rfl),ak (z:=(.slice none 0 0)) (by kernel_rfl) rfl rfl⟩
theorem aec:aB Tryz.prog (98,(.struct [(0,47),(1,97)]),2,48,[(.slice none 0 0),(.slice none 0 0)]):=⟨aO (by kernel_rfl),ak (z:=(.agg #[(.slice none 0 0),(.slice none 0 0)])) (by kernel_rfl) rfl rfl⟩
theorem aed:aB Tryz.prog (99,(.struct [(0,47),(1,97)]),2,48,[(.slice none 0 0),(.slice none 0 0)]):=⟨aO (by kernel_rfl),ak (z:=(.agg #[(.slice none 0 0),(.slice none 0 0)])) (by kernel_rfl) rfl rfl⟩
theorem ZY:aB Tryz.prog (100,(.slice 105),1,24,[(.slice none 0 0)]):=⟨fE (by kernel_rfl),ak (z:=(.slice none 0 0)) (by kernel_rfl) rfl rfl⟩
theorem Z4:aB Tryz.prog (101,(.slice 100),1,24,[(.slice none 0 0)]):=⟨fE (by kernel_rfl),ak (z:=(.slice none 0 0)) (by kernel_rfl) rfl rfl⟩
theorem Z5:aB Tryz.prog (102,(.struct [(0,3),(1,3),(2,3),(3,3)]),4,32,[(.int .i64 0),(.int .i64 0),(.int .i64 0),(.int .i64 0)]):=⟨aO (by kernel_rfl),ak (z:=(.agg #[(.int .i64 0),(.int .i64 0),(.int .i64 0),(.int .i64 0)])) (by kernel_rfl) rfl rfl⟩
theorem Z7:aB Tryz.prog (103,(.struct [(0,3),(1,3),(2,3),(3,3)]),4,32,[(.int .i64 0),(.int .i64 0),(.int .i64 0),(.int .i64 0)]):=⟨aO (by kernel_rfl),ak (z:=(.agg #[(.int .i64 0),(.int .i64 0),(.int .i64 0),(.int .i64 0)])) (by kernel_rfl) rfl rfl⟩
theorem Z8:aB Tryz.prog (104,(.struct [(0,103),(4,3),(5,3)]),6,48,[(.int .i64 0),(.int .i64 0),(.int .i64 0),(.int .i64 0),(.int .i64 0),(.int .i64 0)]):=⟨aO (by kernel_rfl),ak (z:=(.agg #[(.int .i64 0),(.int .i64 0),(.int .i64 0),(.int .i64 0),(.int .i64 0),(.int .i64 0)])) (by kernel_rfl) rfl rfl⟩
theorem Z9:aB Tryz.prog (105,(.struct [(0,103),(4,3),(5,3)]),6,48,[(.int .i64 0),(.int .i64 0),(.int .i64 0),(.int .i64 0),(.int .i64 0),(.int .i64 0)]):=⟨aO (by kernel_rfl),ak (z:=(.agg #[(.int .i64 0),(.int .i64 0),(.int .i64 0),(.int .i64 0),(.int .i64 0),(.int .i64 0)])) (by kernel_rfl) rfl rfl⟩
theorem aac:aB Tryz.prog (106,.plain,1,8,[(.nilFunc)]):=⟨au (by kernel_rfl),ak (z:=(.nilFunc)) (by kernel_rfl) rfl rfl⟩
theorem aad:aB Tryz.prog (107,.plain,1,8,[(.nilFunc)]):=⟨au (by kernel_rfl),ak (z:=(.nilFunc)) (by kernel_rfl) rfl rfl⟩
theorem aae:aB Tryz.prog (108,.plain,1,8,[(.nilFunc)]):=⟨au (by kernel_rfl),ak (z:=(.nilFunc)) (by kernel_rfl) rfl rfl⟩
theorem aaf:aB Tryz.prog (109,.plain,1,8,[(.nilFunc)]):=⟨au (by kernel_rfl),ak (z:=(.nilFunc)) (by kernel_rfl) rfl rfl⟩
theorem aag:aB Tryz.prog (110,.plain,1,8,[(.nilFunc)]):=⟨au (by kernel_rfl),ak (z:=(.nilFunc)) (by kernel_rfl) rfl rfl⟩
theorem aah:aB Tryz.prog (111,.plain,1,8,[(.nilFunc)]):=⟨au (by kernel_rfl),ak (z:=(.nilFunc)) (by kernel_rfl) rfl rfl⟩
theorem aai:aB Tryz.prog (112,(.arr 2 3),2,16,[(.int .i64 0),(.int .i64 0)]):=⟨Zp (by kernel_rfl),ak (z:=(.agg #[(.int .i64 0),(.int .i64 0)])) (by kernel_rfl) rfl rfl⟩
theorem aaj:aB Tryz.prog (113,.plain,1,8,[(.nilFunc)]):=⟨au (by kernel_rfl),ak (z:=(.nilFunc)) (by kernel_rfl) rfl rfl⟩
theorem aak:aB Tryz.prog (114,.plain,1,8,[(.nilFunc)]):=⟨au (by kernel_rfl),ak (z:=(.nilFunc)) (by kernel_rfl) rfl rfl⟩
theorem aal:aB Tryz.prog (115,.plain,1,8,[(.nilFunc)]):=⟨au (by kernel_rfl),ak (z:=(.nilFunc)) (by kernel_rfl) rfl rfl⟩
theorem aam:aB Tryz.prog (116,.plain,1,8,[(.nilFunc)]):=⟨au (by kernel_rfl),ak (z:=(.nilFunc)) (by kernel_rfl) rfl rfl⟩
theorem aan:aB Tryz.prog (117,.plain,1,8,[(.nilFunc)]):=⟨au (by kernel_rfl),ak (z:=(.nilFunc)) (by kernel_rfl) rfl rfl⟩
theorem aao:aB Tryz.prog (118,.plain,1,8,[(.nilFunc)]):=⟨au (by kernel_rfl),ak (z:=(.nilFunc)) (by kernel_rfl) rfl rfl⟩
theorem aap:aB Tryz.prog (119,.plain,1,8,[(.nilFunc)]):=⟨au (by kernel_rfl),ak (z:=(.nilFunc)) (by kernel_rfl) rfl rfl⟩
theorem aaq:aB Tryz.prog (120,(.slice 123),1,24,[(.slice none 0 0)]):=⟨fE (by kernel_rfl),ak (z:=(.slice none 0 0)) (by kernel_rfl) rfl rfl⟩
theorem aar:aB Tryz.prog (121,(.slice 120),1,24,[(.slice none 0 0)]):=⟨fE (by kernel_rfl),ak (z:=(.slice none 0 0)) (by kernel_rfl) rfl rfl⟩
theorem aas:aB Tryz.prog (122,(.struct [(0,3),(1,3),(2,3),(3,3)]),4,32,[(.int .i64 0),(.int .i64 0),(.int .i64 0),(.int .i64 0)]):=⟨aO (by kernel_rfl),ak (z:=(.agg #[(.int .i64 0),(.int .i64 0),(.int .i64 0),(.int .i64 0)])) (by kernel_rfl) rfl rfl⟩
theorem aat:aB Tryz.prog (123,(.struct [(0,3),(1,3),(2,3),(3,3)]),4,32,[(.int .i64 0),(.int .i64 0),(.int .i64 0),(.int .i64 0)]):=⟨aO (by kernel_rfl),ak (z:=(.agg #[(.int .i64 0),(.int .i64 0),(.int .i64 0),(.int .i64 0)])) (by kernel_rfl) rfl rfl⟩
theorem aau:aB Tryz.prog (124,.plain,1,8,[(.nilFunc)]):=⟨au (by kernel_rfl),ak (z:=(.nilFunc)) (by kernel_rfl) rfl rfl⟩
theorem aav:aB Tryz.prog (125,.plain,1,8,[(.nilFunc)]):=⟨au (by kernel_rfl),ak (z:=(.nilFunc)) (by kernel_rfl) rfl rfl⟩
theorem aaw:aB Tryz.prog (126,.plain,1,8,[(.nilFunc)]):=⟨au (by kernel_rfl),ak (z:=(.nilFunc)) (by kernel_rfl) rfl rfl⟩
theorem aax:aB Tryz.prog (127,.plain,1,8,[(.nilFunc)]):=⟨au (by kernel_rfl),ak (z:=(.nilFunc)) (by kernel_rfl) rfl rfl⟩
theorem aay:aB Tryz.prog (128,.plain,1,8,[(.nilFunc)]):=⟨au (by kernel_rfl),ak (z:=(.nilFunc)) (by kernel_rfl) rfl rfl⟩
theorem aaz:aB Tryz.prog (129,.plain,1,8,[(.nilFunc)]):=⟨au (by kernel_rfl),ak (z:=(.nilFunc)) (by kernel_rfl) rfl rfl⟩
theorem aaA:aB Tryz.prog (130,.plain,1,8,[(.nilFunc)]):=⟨au (by kernel_rfl),ak (z:=(.nilFunc)) (by kernel_rfl) rfl rfl⟩
theorem aaB:aB Tryz.prog (131,.plain,1,8,[(.pointer none)]):=⟨au (by kernel_rfl),ak (z:=(.pointer none)) (by kernel_rfl) rfl rfl⟩
theorem aaC:aB Tryz.prog (133,.plain,1,8,[(.nilFunc)]):=⟨au (by kernel_rfl),ak (z:=(.nilFunc)) (by kernel_rfl) rfl rfl⟩
theorem aaD:aB Tryz.prog (134,.plain,1,8,[(.nilFunc)]):=⟨au (by kernel_rfl),ak (z:=(.nilFunc)) (by kernel_rfl) rfl rfl⟩
theorem aaE:aB Tryz.prog (135,.plain,1,8,[(.nilFunc)]):=⟨au (by kernel_rfl),ak (z:=(.nilFunc)) (by kernel_rfl) rfl rfl⟩
theorem aaF:aB Tryz.prog (136,.plain,1,8,[(.nilFunc)]):=⟨au (by kernel_rfl),ak (z:=(.nilFunc)) (by kernel_rfl) rfl rfl⟩
theorem aaG:aB Tryz.prog (137,.plain,1,8,[(.nilFunc)]):=⟨au (by kernel_rfl),ak (z:=(.nilFunc)) (by kernel_rfl) rfl rfl⟩
theorem aaH:aB Tryz.prog (138,.plain,1,8,[(.nilFunc)]):=⟨au (by kernel_rfl),ak (z:=(.nilFunc)) (by kernel_rfl) rfl rfl⟩
theorem aaI:aB Tryz.prog (139,(.slice 186),1,24,[(.slice none 0 0)]):=⟨fE (by kernel_rfl),ak (z:=(.slice none 0 0)) (by kernel_rfl) rfl rfl⟩
theorem aaJ:aB Tryz.prog (140,.plain,1,8,[(.nilFunc)]):=⟨au (by kernel_rfl),ak (z:=(.nilFunc)) (by kernel_rfl) rfl rfl⟩
theorem aaK:aB Tryz.prog (141,.plain,1,8,[(.nilFunc)]):=⟨au (by kernel_rfl),ak (z:=(.nilFunc)) (by kernel_rfl) rfl rfl⟩
theorem aaL:aB Tryz.prog (142,.plain,1,8,[(.nilFunc)]):=⟨au (by kernel_rfl),ak (z:=(.nilFunc)) (by kernel_rfl) rfl rfl⟩
theorem aaM:aB Tryz.prog (143,.plain,1,8,[(.nilFunc)]):=⟨au (by kernel_rfl),ak (z:=(.nilFunc)) (by kernel_rfl) rfl rfl⟩
theorem aaN:aB Tryz.prog (145,.plain,1,8,[(.nilFunc)]):=⟨au (by kernel_rfl),ak (z:=(.nilFunc)) (by kernel_rfl) rfl rfl⟩
theorem aaO:aB Tryz.prog (146,.plain,1,8,[(.nilFunc)]):=⟨au (by kernel_rfl),ak (z:=(.nilFunc)) (by kernel_rfl) rfl rfl⟩
theorem aaP:aB Tryz.prog (147,.plain,1,8,[(.nilFunc)]):=⟨au (by kernel_rfl),ak (z:=(.nilFunc)) (by kernel_rfl) rfl rfl⟩
theorem aaQ:aB Tryz.prog (148,.plain,1,8,[(.nilFunc)]):=⟨au (by kernel_rfl),ak (z:=(.nilFunc)) (by kernel_rfl) rfl rfl⟩
theorem aaR:aB Tryz.prog (150,.plain,1,8,[(.pointer none)]):=⟨au (by kernel_rfl),ak (z:=(.pointer none)) (by kernel_rfl) rfl rfl⟩
theorem aaS:aB Tryz.prog (151,.plain,1,8,[(.nilFunc)]):=⟨au (by kernel_rfl),ak (z:=(.nilFunc)) (by kernel_rfl) rfl rfl⟩
theorem aaT:aB Tryz.prog (152,.plain,1,8,[(.nilFunc)]):=⟨au (by kernel_rfl),ak (z:=(.nilFunc)) (by kernel_rfl) rfl rfl⟩
theorem aaU:aB Tryz.prog (153,.plain,1,8,[(.nilFunc)]):=⟨au (by kernel_rfl),ak (z:=(.nilFunc)) (by kernel_rfl) rfl rfl⟩
theorem aaV:aB Tryz.prog (154,(.slice 103),1,24,[(.slice none 0 0)]):=⟨fE (by kernel_rfl),ak (z:=(.slice none 0 0)) (by kernel_rfl) rfl rfl⟩
theorem aaW:aB Tryz.prog (156,.plain,1,8,[(.nilFunc)]):=⟨au (by kernel_rfl),ak (z:=(.nilFunc)) (by kernel_rfl) rfl rfl⟩
theorem aaX:aB Tryz.prog (157,.plain,1,8,[(.nilFunc)]):=⟨au (by kernel_rfl),ak (z:=(.nilFunc)) (by kernel_rfl) rfl rfl⟩
theorem aaY:aB Tryz.prog (159,.plain,1,8,[(.nilFunc)]):=⟨au (by kernel_rfl),ak (z:=(.nilFunc)) (by kernel_rfl) rfl rfl⟩
theorem aaZ:aB Tryz.prog (160,.plain,1,8,[(.nilFunc)]):=⟨au (by kernel_rfl),ak (z:=(.nilFunc)) (by kernel_rfl) rfl rfl⟩
theorem aa0:aB Tryz.prog (161,.plain,1,8,[(.nilFunc)]):=⟨au (by kernel_rfl),ak (z:=(.nilFunc)) (by kernel_rfl) rfl rfl⟩
theorem aa1:aB Tryz.prog (162,.plain,1,8,[(.nilFunc)]):=⟨au (by kernel_rfl),ak (z:=(.nilFunc)) (by kernel_rfl) rfl rfl⟩
theorem aa2:aB Tryz.prog (163,.plain,1,8,[(.nilFunc)]):=⟨au (by kernel_rfl),ak (z:=(.nilFunc)) (by kernel_rfl) rfl rfl⟩
theorem aa3:aB Tryz.prog (164,(.struct [(0,22)]),1,24,[(.slice none 0 0)]):=⟨aO (by kernel_rfl),ak (z:=(.agg #[(.slice none 0 0)])) (by kernel_rfl) rfl rfl⟩
theorem aa4:aB Tryz.prog (165,(.struct [(0,22)]),1,24,[(.slice none 0 0)]):=⟨aO (by kernel_rfl),ak (z:=(.agg #[(.slice none 0 0)])) (by kernel_rfl) rfl rfl⟩
theorem aa5:aB Tryz.prog (166,.plain,1,8,[(.nilFunc)]):=⟨au (by kernel_rfl),ak (z:=(.nilFunc)) (by kernel_rfl) rfl rfl⟩
theorem aa6:aB Tryz.prog (167,.plain,1,8,[(.nilFunc)]):=⟨au (by kernel_rfl),ak (z:=(.nilFunc)) (by kernel_rfl) rfl rfl⟩
theorem aa7:aB Tryz.prog (168,.plain,1,8,[(.nilFunc)]):=⟨au (by kernel_rfl),ak (z:=(.nilFunc)) (by kernel_rfl) rfl rfl⟩
theorem aa8:aB Tryz.prog (169,.plain,1,8,[(.nilFunc)]):=⟨au (by kernel_rfl),ak (z:=(.nilFunc)) (by kernel_rfl) rfl rfl⟩
theorem aa9:aB Tryz.prog (170,.plain,1,8,[(.nilFunc)]):=⟨au (by kernel_rfl),ak (z:=(.nilFunc)) (by kernel_rfl) rfl rfl⟩
theorem abb:aB Tryz.prog (171,.plain,1,8,[(.nilFunc)]):=⟨au (by kernel_rfl),ak (z:=(.nilFunc)) (by kernel_rfl) rfl rfl⟩
theorem abd:aB Tryz.prog (172,.plain,1,8,[(.nilFunc)]):=⟨au (by kernel_rfl),ak (z:=(.nilFunc)) (by kernel_rfl) rfl rfl⟩
theorem abe:aB Tryz.prog (173,.plain,1,8,[(.nilFunc)]):=⟨au (by kernel_rfl),ak (z:=(.nilFunc)) (by kernel_rfl) rfl rfl⟩
theorem abf:aB Tryz.prog (174,.plain,1,8,[(.nilFunc)]):=⟨au (by kernel_rfl),ak (z:=(.nilFunc)) (by kernel_rfl) rfl rfl⟩
theorem abg:aB Tryz.prog (175,.plain,1,8,[(.nilFunc)]):=⟨au (by kernel_rfl),ak (z:=(.nilFunc)) (by kernel_rfl) rfl rfl⟩
theorem abh:aB Tryz.prog (176,.plain,1,8,[(.nilFunc)]):=⟨au (by kernel_rfl),ak (z:=(.nilFunc)) (by kernel_rfl) rfl rfl⟩
theorem abj:aB Tryz.prog (177,.plain,1,8,[(.nilFunc)]):=⟨au (by kernel_rfl),ak (z:=(.nilFunc)) (by kernel_rfl) rfl rfl⟩
theorem abk:aB Tryz.prog (178,.plain,1,8,[(.nilFunc)]):=⟨au (by kernel_rfl),ak (z:=(.nilFunc)) (by kernel_rfl) rfl rfl⟩
theorem abl:aB Tryz.prog (179,(.struct [(0,47),(1,154),(2,3)]),3,56,[(.slice none 0 0),(.slice none 0 0),(.int .i64 0)]):=⟨aO (by kernel_rfl),ak (z:=(.agg #[(.slice none 0 0),(.slice none 0 0),(.int .i64 0)])) (by kernel_rfl) rfl rfl⟩
theorem abm:aB Tryz.prog (180,(.struct [(0,47),(1,154),(2,3)]),3,56,[(.slice none 0 0),(.slice none 0 0),(.int .i64 0)]):=⟨aO (by kernel_rfl),ak (z:=(.agg #[(.slice none 0 0),(.slice none 0 0),(.int .i64 0)])) (by kernel_rfl) rfl rfl⟩
theorem abn:aB Tryz.prog (181,(.struct [(0,22),(1,22),(2,22),(3,4)]),4,80,[(.slice none 0 0),(.slice none 0 0),(.slice none 0 0),(.bool false)]):=⟨aO (by kernel_rfl),ak (z:=(.agg #[(.slice none 0 0),(.slice none 0 0),(.slice none 0 0),(.bool false)])) (by kernel_rfl) rfl rfl⟩
theorem abo:aB Tryz.prog (182,(.struct [(0,22),(1,22),(2,22),(3,4)]),4,80,[(.slice none 0 0),(.slice none 0 0),(.slice none 0 0),(.bool false)]):=⟨aO (by kernel_rfl),ak (z:=(.agg #[(.slice none 0 0),(.slice none 0 0),(.slice none 0 0),(.bool false)])) (by kernel_rfl) rfl rfl⟩
theorem abp:aB Tryz.prog (183,.plain,1,8,[(.nilFunc)]):=⟨au (by kernel_rfl),ak (z:=(.nilFunc)) (by kernel_rfl) rfl rfl⟩
theorem abq:aB Tryz.prog (184,.plain,1,8,[(.nilFunc)]):=⟨au (by kernel_rfl),ak (z:=(.nilFunc)) (by kernel_rfl) rfl rfl⟩
theorem abr:aB Tryz.prog (185,.plain,1,8,[(.nilFunc)]):=⟨au (by kernel_rfl),ak (z:=(.nilFunc)) (by kernel_rfl) rfl rfl⟩
theorem abt:aB Tryz.prog (186,(.slice 4),1,24,[(.slice none 0 0)]):=⟨fE (by kernel_rfl),ak (z:=(.slice none 0 0)) (by kernel_rfl) rfl rfl⟩
theorem abu:aB Tryz.prog (187,.plain,1,8,[(.nilFunc)]):=⟨au (by kernel_rfl),ak (z:=(.nilFunc)) (by kernel_rfl) rfl rfl⟩
theorem abv:aB Tryz.prog (188,(.slice 192),1,24,[(.slice none 0 0)]):=⟨fE (by kernel_rfl),ak (z:=(.slice none 0 0)) (by kernel_rfl) rfl rfl⟩
theorem abw:aB Tryz.prog (189,(.struct [(0,186),(1,188)]),2,48,[(.slice none 0 0),(.slice none 0 0)]):=⟨aO (by kernel_rfl),ak (z:=(.agg #[(.slice none 0 0),(.slice none 0 0)])) (by kernel_rfl) rfl rfl⟩
theorem abx:aB Tryz.prog (190,(.struct [(0,186),(1,188)]),2,48,[(.slice none 0 0),(.slice none 0 0)]):=⟨aO (by kernel_rfl),ak (z:=(.agg #[(.slice none 0 0),(.slice none 0 0)])) (by kernel_rfl) rfl rfl⟩
theorem aby:aB Tryz.prog (191,.plain,1,8,[(.nilFunc)]):=⟨au (by kernel_rfl),ak (z:=(.nilFunc)) (by kernel_rfl) rfl rfl⟩
theorem abz:aB Tryz.prog (192,(.slice 194),1,24,[(.slice none 0 0)]):=⟨fE (by kernel_rfl),ak (z:=(.slice none 0 0)) (by kernel_rfl) rfl rfl⟩
theorem abA:aB Tryz.prog (193,(.struct [(0,3),(1,3)]),2,16,[(.int .i64 0),(.int .i64 0)]):=⟨aO (by kernel_rfl),ak (z:=(.agg #[(.int .i64 0),(.int .i64 0)])) (by kernel_rfl) rfl rfl⟩
theorem abB:aB Tryz.prog (194,(.struct [(0,3),(1,3)]),2,16,[(.int .i64 0),(.int .i64 0)]):=⟨aO (by kernel_rfl),ak (z:=(.agg #[(.int .i64 0),(.int .i64 0)])) (by kernel_rfl) rfl rfl⟩
theorem abC:aB Tryz.prog (195,.plain,1,8,[(.nilFunc)]):=⟨au (by kernel_rfl),ak (z:=(.nilFunc)) (by kernel_rfl) rfl rfl⟩
theorem abD:aB Tryz.prog (196,.plain,1,8,[(.int .u64 0)]):=⟨au (by kernel_rfl),ak (z:=(.int .u64 0)) (by kernel_rfl) rfl rfl⟩
theorem abE:aB Tryz.prog (198,.plain,1,8,[(.nilFunc)]):=⟨au (by kernel_rfl),ak (z:=(.nilFunc)) (by kernel_rfl) rfl rfl⟩
theorem abG:aB Tryz.prog (199,.plain,1,8,[(.nilFunc)]):=⟨au (by kernel_rfl),ak (z:=(.nilFunc)) (by kernel_rfl) rfl rfl⟩
theorem abH:aB Tryz.prog (200,.plain,1,8,[(.nilFunc)]):=⟨au (by kernel_rfl),ak (z:=(.nilFunc)) (by kernel_rfl) rfl rfl⟩
theorem abI:aB Tryz.prog (201,.plain,1,8,[(.nilFunc)]):=⟨au (by kernel_rfl),ak (z:=(.nilFunc)) (by kernel_rfl) rfl rfl⟩
theorem abJ:aB Tryz.prog (202,.plain,1,8,[(.nilFunc)]):=⟨au (by kernel_rfl),ak (z:=(.nilFunc)) (by kernel_rfl) rfl rfl⟩
theorem abK:aB Tryz.prog (203,.plain,1,8,[(.nilFunc)]):=⟨au (by kernel_rfl),ak (z:=(.nilFunc)) (by kernel_rfl) rfl rfl⟩
theorem abL:aB Tryz.prog (204,.plain,1,8,[(.nilFunc)]):=⟨au (by kernel_rfl),ak (z:=(.nilFunc)) (by kernel_rfl) rfl rfl⟩
theorem abM:aB Tryz.prog (205,.plain,1,8,[(.nilFunc)]):=⟨au (by kernel_rfl),ak (z:=(.nilFunc)) (by kernel_rfl) rfl rfl⟩
theorem abN:aB Tryz.prog (206,.plain,1,8,[(.nilFunc)]):=⟨au (by kernel_rfl),ak (z:=(.nilFunc)) (by kernel_rfl) rfl rfl⟩
theorem abO:aB Tryz.prog (207,.plain,1,8,[(.nilFunc)]):=⟨au (by kernel_rfl),ak (z:=(.nilFunc)) (by kernel_rfl) rfl rfl⟩
theorem abP:aB Tryz.prog (208,.plain,1,8,[(.nilFunc)]):=⟨au (by kernel_rfl),ak (z:=(.nilFunc)) (by kernel_rfl) rfl rfl⟩
theorem abQ:aB Tryz.prog (209,.plain,1,8,[(.nilFunc)]):=⟨au (by kernel_rfl),ak (z:=(.nilFunc)) (by kernel_rfl) rfl rfl⟩
theorem abR:aB Tryz.prog (210,.plain,1,8,[(.nilFunc)]):=⟨au (by kernel_rfl),ak (z:=(.nilFunc)) (by kernel_rfl) rfl rfl⟩
theorem abS:aB Tryz.prog (211,.plain,1,8,[(.nilFunc)]):=⟨au (by kernel_rfl),ak (z:=(.nilFunc)) (by kernel_rfl) rfl rfl⟩
theorem abT:aB Tryz.prog (212,(.slice 214),1,24,[(.slice none 0 0)]):=⟨fE (by kernel_rfl),ak (z:=(.slice none 0 0)) (by kernel_rfl) rfl rfl⟩
theorem abU:aB Tryz.prog (213,(.struct [(0,4),(1,3),(2,3)]),3,24,[(.bool false),(.int .i64 0),(.int .i64 0)]):=⟨aO (by kernel_rfl),ak (z:=(.agg #[(.bool false),(.int .i64 0),(.int .i64 0)])) (by kernel_rfl) rfl rfl⟩
theorem abV:aB Tryz.prog (214,(.struct [(0,4),(1,3),(2,3)]),3,24,[(.bool false),(.int .i64 0),(.int .i64 0)]):=⟨aO (by kernel_rfl),ak (z:=(.agg #[(.bool false),(.int .i64 0),(.int .i64 0)])) (by kernel_rfl) rfl rfl⟩
theorem abW:aB Tryz.prog (215,.plain,1,8,[(.nilFunc)]):=⟨au (by kernel_rfl),ak (z:=(.nilFunc)) (by kernel_rfl) rfl rfl⟩
theorem abX:aB Tryz.prog (216,.plain,1,4,[(.int .u32 0)]):=⟨au (by kernel_rfl),ak (z:=(.int .u32 0)) (by kernel_rfl) rfl rfl⟩
theorem abY:aB Tryz.prog (218,.plain,1,8,[(.nilFunc)]):=⟨au (by kernel_rfl),ak (z:=(.nilFunc)) (by kernel_rfl) rfl rfl⟩
theorem abZ:aB Tryz.prog (220,.plain,1,8,[(.nilFunc)]):=⟨au (by kernel_rfl),ak (z:=(.nilFunc)) (by kernel_rfl) rfl rfl⟩
theorem ab1:aB Tryz.prog (221,.plain,1,8,[(.nilFunc)]):=⟨au (by kernel_rfl),ak (z:=(.nilFunc)) (by kernel_rfl) rfl rfl⟩
theorem ab2:aB Tryz.prog (222,.plain,1,8,[(.nilFunc)]):=⟨au (by kernel_rfl),ak (z:=(.nilFunc)) (by kernel_rfl) rfl rfl⟩
theorem ab3:aB Tryz.prog (223,.plain,1,8,[(.nilFunc)]):=⟨au (by kernel_rfl),ak (z:=(.nilFunc)) (by kernel_rfl) rfl rfl⟩
theorem ab4:aB Tryz.prog (224,.plain,1,8,[(.nilFunc)]):=⟨au (by kernel_rfl),ak (z:=(.nilFunc)) (by kernel_rfl) rfl rfl⟩
theorem ab5:aB Tryz.prog (225,.plain,1,8,[(.nilFunc)]):=⟨au (by kernel_rfl),ak (z:=(.nilFunc)) (by kernel_rfl) rfl rfl⟩
theorem ab6:aB Tryz.prog (226,.plain,1,8,[(.nilFunc)]):=⟨au (by kernel_rfl),ak (z:=(.nilFunc)) (by kernel_rfl) rfl rfl⟩
theorem ab7:aB Tryz.prog (227,(.struct [(0,17),(1,17),(2,17),(3,9)]),4,40,[(.pointer none),(.pointer none),(.pointer none),(.string ⟨#[]⟩)]):=⟨aO (by kernel_rfl),ak (z:=(.agg #[(.pointer none),(.pointer none),(.pointer none),(.string ⟨#[]⟩)])) (by kernel_rfl) rfl rfl⟩
theorem ab8:aB Tryz.prog (228,(.struct [(0,17),(1,17),(2,17),(3,9)]),4,40,[(.pointer none),(.pointer none),(.pointer none),(.string ⟨#[]⟩)]):=⟨aO (by kernel_rfl),ak (z:=(.agg #[(.pointer none),(.pointer none),(.pointer none),(.string ⟨#[]⟩)])) (by kernel_rfl) rfl rfl⟩
theorem ab9:aB Tryz.prog (232,.plain,1,1,[(.int .u8 0)]):=⟨au (by kernel_rfl),ak (z:=(.int .u8 0)) (by kernel_rfl) rfl rfl⟩
theorem acd:aB Tryz.prog (233,.plain,1,1,[(.int .u8 0)]):=⟨au (by kernel_rfl),ak (z:=(.int .u8 0)) (by kernel_rfl) rfl rfl⟩
theorem ace:aB Tryz.prog (234,.plain,1,8,[(.nilFunc)]):=⟨au (by kernel_rfl),ak (z:=(.nilFunc)) (by kernel_rfl) rfl rfl⟩
theorem acf:aB Tryz.prog (235,.plain,1,8,[(.pointer none)]):=⟨au (by kernel_rfl),ak (z:=(.pointer none)) (by kernel_rfl) rfl rfl⟩
theorem acg:aB Tryz.prog (236,.plain,1,4,[(.int .i32 0)]):=⟨au (by kernel_rfl),ak (z:=(.int .i32 0)) (by kernel_rfl) rfl rfl⟩
theorem ach:aB Tryz.prog (237,.plain,1,4,[(.int .i32 0)]):=⟨au (by kernel_rfl),ak (z:=(.int .i32 0)) (by kernel_rfl) rfl rfl⟩
theorem aci:aB Tryz.prog (238,(.struct [(0,12),(1,12),(2,216),(3,232),(4,5),(5,5),(6,233),(7,234),(8,235),(9,236),(10,237)]),11,48,[(.int .u64 0),(.int .u64 0),(.int .u32 0),(.int .u8 0),(.int .u8 0),(.int .u8 0),(.int .u8 0),(.nilFunc),(.pointer none),(.int .i32 0),(.int .i32 0)]):=⟨aO (by kernel_rfl),ak (z:=(.agg #[(.int .u64 0),(.int .u64 0),(.int .u32 0),(.int .u8 0),(.int .u8 0),(.int .u8 0),(.int .u8 0),(.nilFunc),(.pointer none),(.int .i32 0),(.int .i32 0)])) (by kernel_rfl) rfl rfl⟩
theorem acj:aB Tryz.prog (239,(.struct [(0,12),(1,12),(2,216),(3,232),(4,5),(5,5),(6,233),(7,234),(8,235),(9,236),(10,237)]),11,48,[(.int .u64 0),(.int .u64 0),(.int .u32 0),(.int .u8 0),(.int .u8 0),(.int .u8 0),(.int .u8 0),(.nilFunc),(.pointer none),(.int .i32 0),(.int .i32 0)]):=⟨aO (by kernel_rfl),ak (z:=(.agg #[(.int .u64 0),(.int .u64 0),(.int .u32 0),(.int .u8 0),(.int .u8 0),(.int .u8 0),(.int .u8 0),(.nilFunc),(.pointer none),(.int .i32 0),(.int .i32 0)])) (by kernel_rfl) rfl rfl⟩
def acM:List Nat:=[112]
theorem allEq:Xr Tryz.prog acM:=⟨by kernel_rfl,trivial⟩
def acN:List Nat:=[38,39,75,76,193,194]
theorem acJ:Xu Tryz.prog rows acN:=⟨⟨rfl,by kernel_rfl,by kernel_rfl,_,_,Tryz.underlying38,by decide,by decide,rfl,rfl,by kernel_rfl,by kernel_rfl⟩,⟨rfl,by kernel_rfl,by kernel_rfl,_,_,Tryz.underlying39,by decide,by decide,rfl,rfl,by kernel_rfl,by kernel_rfl⟩,⟨rfl,by kernel_rfl,by kernel_rfl,_,_,Tryz.underlying75,by decide,by decide,rfl,rfl,by kernel_rfl,by kernel_rfl⟩,⟨rfl,by kernel_rfl,by kernel_rfl,_,_,Tryz.underlying76,by decide,by decide,rfl,rfl,by kernel_rfl,by kernel_rfl⟩,⟨rfl,by kernel_rfl,by kernel_rfl,_,_,Tryz.underlying193,by decide,by decide,rfl,rfl,by kernel_rfl,by kernel_rfl⟩,⟨rfl,by kernel_rfl,by kernel_rfl,_,_,Tryz.underlying194,by decide,by decide,rfl,rfl,by kernel_rfl,by kernel_rfl⟩,trivial⟩
def cf:Cfg:=XE rows acM acN
theorem allRows:Xt Tryz.prog rows:=⟨aeH,aeI,row3,row4,aeJ,aeK,aeL,aeM,aeN,ac6,ac7,ac8,ac9,ada,adb,ade,adf,adg,adh,adi,row22,row23,row24,row25,row26,row28,adk,row30,adl,row32,adn,row34,row35,ado,adp,row38,row39,adq,ads,row45,adt,row47,adu,adw,adx,ady,adz,adA,adB,adC,adD,adE,adF,adG,adH,adI,adJ,adK,adL,adM,adN,adO,adP,adQ,adR,adT,adU,adV,adW,adX,adY,adZ,ad1,ad2,ad3,ad4,ad5,ad6,ad7,ad8,ad9,aea,aeb,aec,aed,ZY,Z4,Z5,Z7,Z8,Z9,aac,aad,aae,aaf,aag,aah,aai,aaj,aak,aal,aam,aan,aao,aap,aaq,aar,aas,aat,aau,aav,aaw,aax,aay,aaz,aaA,aaB,aaC,aaD,aaE,aaF,aaG,aaH,aaI,aaJ,aaK,aaL,aaM,aaN,aaO,aaP,aaQ,aaR,aaS,aaT,aaU,aaV,aaW,aaX,aaY,aaZ,aa0,aa1,aa2,aa3,aa4,aa5,aa6,aa7,aa8,aa9,abb,abd,abe,abf,abg,abh,abj,abk,abl,abm,abn,abo,abp,abq,abr,abt,abu,abv,abw,abx,aby,abz,abA,abB,abC,abD,abE,abG,abH,abI,abJ,abK,abL,abM,abN,abO,abP,abQ,abR,abS,abT,abU,abV,abW,abX,abY,abZ,ab1,ab2,ab3,ab4,ab5,ab6,ab7,ab8,ab9,acd,ace,acf,acg,ach,aci,acj,trivial⟩
theorem aQ:jP Tryz.prog cf:=XF allRows allEq acJ
set_option maxRecDepth 100000 in
theorem aef:cf.ty 1 = .plain/\cf.sz 1=1/\cf.ty 2 = .int/\cf.sz 2=1/\cf.bytes 2=8/\cf.zero 2=[(.int .i64 0)]/\cf.ty 3 = .int/\cf.sz 3=1/\cf.bytes 3=8/\cf.zero 3=[(.int .i64 0)]/\cf.ty 4 = .bool/\cf.sz 4=1/\cf.bytes 4=1/\cf.zero 4=[(.bool false)]/\cf.ty 5 = .plain/\cf.sz 5=1/\cf.bytes 5=1/\cf.zero 5=[(.int .u8 0)]/\cf.ty 6 = .plain/\cf.sz 6=1/\cf.bytes 6=1/\cf.zero 6=[(.int .u8 0)]/\cf.ty 7=(.struct [(0,2),(1,3),(2,4),(3,6)])/\cf.sz 7=4/\cf.bytes 7=24/\cf.zero 7=[(.int .i64 0),(.int .i64 0),(.bool false),(.int .u8 0)]/\cf.ty 8=(.struct [(0,2),(1,3),(2,4),(3,6)])/\cf.sz 8=4/\cf.bytes 8=24/\cf.zero 8=[(.int .i64 0),(.int .i64 0),(.bool false),(.int .u8 0)]/\cf.ty 9 = .plain/\cf.sz 9=1/\cf.ty 10 = .plain/\cf.sz 10=1/\cf.ty 11 = .plain/\cf.sz 11=1/\cf.ty 12 = .plain/\cf.sz 12=1/\cf.bytes 12=8/\cf.zero 12=[(.int .u64 0)]/\cf.ty 13=(.struct [(0,9),(1,12)])/\cf.sz 13=2/\cf.bytes 13=24/\cf.zero 13=[(.string ⟨#[]⟩),(.int .u64 0)]/\cf.ty 14=(.struct [(0,9),(1,12)])/\cf.sz 14=2/\cf.bytes 14=24/\cf.zero 14=[(.string ⟨#[]⟩),(.int .u64 0)]/\cf.ty 15 = .plain:=⟨rfl,rfl,rfl,rfl,rfl,rfl,rfl,rfl,rfl,rfl,rfl,rfl,rfl,rfl,rfl,rfl,rfl,rfl,rfl,rfl,rfl,rfl,rfl,rfl,rfl,rfl,rfl,rfl,rfl,rfl,rfl,rfl,rfl,rfl,rfl,rfl,rfl,rfl,rfl,rfl,rfl,rfl,rfl,rfl,rfl,rfl,rfl,rfl,rfl⟩
set_option maxRecDepth 100000 in
theorem aeg:cf.sz 15=1/\cf.ty 16 = .plain/\cf.sz 16=1/\cf.ty 17 = .plain/\cf.sz 17=1/\cf.ty 18=(.struct [(0,17)])/\cf.sz 18=1/\cf.bytes 18=8/\cf.zero 18=[(.pointer none)]/\cf.ty 19=(.struct [(0,17)])/\cf.sz 19=1/\cf.bytes 19=8/\cf.zero 19=[(.pointer none)]/\cf.ty 21 = .plain/\cf.sz 21=1/\cf.bytes 21=4/\cf.zero 21=[(.int .i32 0)]/\cf.ty 22=(.slice 26)/\cf.sz 22=1/\cf.bytes 22=24/\cf.zero 22=[(.slice none 0 0)]/\cf.ty 23=(.struct [(0,22),(1,22)])/\cf.sz 23=2/\cf.bytes 23=48/\cf.zero 23=[(.slice none 0 0),(.slice none 0 0)]/\cf.ty 24=(.struct [(0,22),(1,22)])/\cf.sz 24=2/\cf.bytes 24=48/\cf.zero 24=[(.slice none 0 0),(.slice none 0 0)]/\cf.ty 25 = .plain/\cf.sz 25=1/\cf.ty 26=(.slice 3)/\cf.sz 26=1/\cf.bytes 26=24/\cf.zero 26=[(.slice none 0 0)]/\cf.ty 28 = .plain/\cf.sz 28=1/\cf.ty 29=(.struct [(0,22),(1,22)])/\cf.sz 29=2/\cf.bytes 29=48/\cf.zero 29=[(.slice none 0 0),(.slice none 0 0)]/\cf.ty 30 = .plain/\cf.sz 30=1/\cf.ty 31 = .plain/\cf.sz 31=1/\cf.ty 32 = .plain/\cf.sz 32=1/\cf.ty 33 = .plain/\cf.sz 33=1:=⟨rfl,rfl,rfl,rfl,rfl,rfl,rfl,rfl,rfl,rfl,rfl,rfl,rfl,rfl,rfl,rfl,rfl,rfl,rfl,rfl,rfl,rfl,rfl,rfl,rfl,rfl,rfl,rfl,rfl,rfl,rfl,rfl,rfl,rfl,rfl,rfl,rfl,rfl,rfl,rfl,rfl,rfl,rfl,rfl,rfl,rfl,rfl,rfl,rfl⟩
set_option maxRecDepth 100000 in
theorem aeh:cf.ty 34 = .plain/\cf.sz 34=1/\cf.ty 35 = .plain/\cf.sz 35=1/\cf.ty 36=(.slice 5)/\cf.sz 36=1/\cf.bytes 36=24/\cf.zero 36=[(.slice none 0 0)]/\cf.ty 37 = .plain/\cf.sz 37=1/\cf.ty 38=(.struct [(0,3),(1,3)])/\cf.sz 38=2/\cf.bytes 38=16/\cf.zero 38=[(.int .i64 0),(.int .i64 0)]/\cf.ty 39=(.struct [(0,3),(1,3)])/\cf.sz 39=2/\cf.bytes 39=16/\cf.zero 39=[(.int .i64 0),(.int .i64 0)]/\cf.ty 41 = .plain/\cf.sz 41=1/\cf.ty 43 = .plain/\cf.sz 43=1/\cf.ty 45 = .plain/\cf.sz 45=1/\cf.ty 46 = .plain/\cf.sz 46=1/\cf.ty 47=(.slice 112)/\cf.sz 47=1/\cf.bytes 47=24/\cf.zero 47=[(.slice none 0 0)]/\cf.ty 49 = .plain/\cf.sz 49=1/\cf.ty 50 = .plain/\cf.sz 50=1/\cf.ty 52 = .plain/\cf.sz 52=1/\cf.ty 54 = .plain/\cf.sz 54=1/\cf.ty 56 = .plain/\cf.sz 56=1/\cf.ty 58 = .plain/\cf.sz 58=1/\cf.ty 60 = .plain/\cf.sz 60=1/\cf.ty 61 = .plain/\cf.sz 61=1/\cf.ty 62 = .plain/\cf.sz 62=1/\cf.ty 64 = .plain:=⟨rfl,rfl,rfl,rfl,rfl,rfl,rfl,rfl,rfl,rfl,rfl,rfl,rfl,rfl,rfl,rfl,rfl,rfl,rfl,rfl,rfl,rfl,rfl,rfl,rfl,rfl,rfl,rfl,rfl,rfl,rfl,rfl,rfl,rfl,rfl,rfl,rfl,rfl,rfl,rfl,rfl,rfl,rfl,rfl,rfl,rfl,rfl,rfl,rfl⟩
set_option maxRecDepth 100000 in
theorem aei:cf.sz 64=1/\cf.ty 65 = .plain/\cf.sz 65=1/\cf.ty 66 = .plain/\cf.sz 66=1/\cf.ty 67 = .plain/\cf.sz 67=1/\cf.ty 68=(.slice 121)/\cf.sz 68=1/\cf.bytes 68=24/\cf.zero 68=[(.slice none 0 0)]/\cf.ty 69=(.struct [(0,47),(1,68),(2,4)])/\cf.sz 69=3/\cf.bytes 69=56/\cf.zero 69=[(.slice none 0 0),(.slice none 0 0),(.bool false)]/\cf.ty 70=(.struct [(0,47),(1,68),(2,4)])/\cf.sz 70=3/\cf.bytes 70=56/\cf.zero 70=[(.slice none 0 0),(.slice none 0 0),(.bool false)]/\cf.ty 72 = .plain/\cf.sz 72=1/\cf.ty 73 = .plain/\cf.sz 73=1/\cf.ty 74 = .plain/\cf.sz 74=1/\cf.ty 75=(.struct [(0,3),(1,3)])/\cf.sz 75=2/\cf.bytes 75=16/\cf.zero 75=[(.int .i64 0),(.int .i64 0)]/\cf.ty 76=(.struct [(0,3),(1,3)])/\cf.sz 76=2/\cf.bytes 76=16/\cf.zero 76=[(.int .i64 0),(.int .i64 0)]/\cf.ty 77 = .plain/\cf.sz 77=1/\cf.ty 78 = .plain/\cf.sz 78=1/\cf.ty 79 = .plain/\cf.sz 79=1/\cf.ty 80 = .plain/\cf.sz 80=1/\cf.ty 82 = .plain/\cf.sz 82=1/\cf.ty 83 = .plain/\cf.sz 83=1/\cf.ty 84 = .plain/\cf.sz 84=1/\cf.ty 85 = .plain/\cf.sz 85=1:=⟨rfl,rfl,rfl,rfl,rfl,rfl,rfl,rfl,rfl,rfl,rfl,rfl,rfl,rfl,rfl,rfl,rfl,rfl,rfl,rfl,rfl,rfl,rfl,rfl,rfl,rfl,rfl,rfl,rfl,rfl,rfl,rfl,rfl,rfl,rfl,rfl,rfl,rfl,rfl,rfl,rfl,rfl,rfl,rfl,rfl,rfl,rfl,rfl,rfl⟩
set_option maxRecDepth 100000 in
theorem aej:cf.ty 86 = .plain/\cf.sz 86=1/\cf.ty 87 = .plain/\cf.sz 87=1/\cf.bytes 87=8/\cf.zero 87=[(.int .u64 0)]/\cf.ty 88=(.struct [(0,36),(1,3),(2,87)])/\cf.sz 88=3/\cf.bytes 88=40/\cf.zero 88=[(.slice none 0 0),(.int .i64 0),(.int .u64 0)]/\cf.ty 89=(.struct [(0,36),(1,3),(2,87)])/\cf.sz 89=3/\cf.bytes 89=40/\cf.zero 89=[(.slice none 0 0),(.int .i64 0),(.int .u64 0)]/\cf.ty 90 = .plain/\cf.sz 90=1/\cf.ty 91 = .plain/\cf.sz 91=1/\cf.ty 92 = .plain/\cf.sz 92=1/\cf.ty 93 = .plain/\cf.sz 93=1/\cf.ty 94 = .plain/\cf.sz 94=1/\cf.ty 95 = .plain/\cf.sz 95=1/\cf.ty 96 = .plain/\cf.sz 96=1/\cf.ty 97=(.slice 101)/\cf.sz 97=1/\cf.bytes 97=24/\cf.zero 97=[(.slice none 0 0)]/\cf.ty 98=(.struct [(0,47),(1,97)])/\cf.sz 98=2/\cf.bytes 98=48/\cf.zero 98=[(.slice none 0 0),(.slice none 0 0)]/\cf.ty 99=(.struct [(0,47),(1,97)])/\cf.sz 99=2/\cf.bytes 99=48/\cf.zero 99=[(.slice none 0 0),(.slice none 0 0)]/\cf.ty 100=(.slice 105)/\cf.sz 100=1/\cf.bytes 100=24/\cf.zero 100=[(.slice none 0 0)]/\cf.ty 101=(.slice 100)/\cf.sz 101=1/\cf.bytes 101=24/\cf.zero 101=[(.slice none 0 0)]/\cf.ty 102=(.struct [(0,3),(1,3),(2,3),(3,3)]):=⟨rfl,rfl,rfl,rfl,rfl,rfl,rfl,rfl,rfl,rfl,rfl,rfl,rfl,rfl,rfl,rfl,rfl,rfl,rfl,rfl,rfl,rfl,rfl,rfl,rfl,rfl,rfl,rfl,rfl,rfl,rfl,rfl,rfl,rfl,rfl,rfl,rfl,rfl,rfl,rfl,rfl,rfl,rfl,rfl,rfl,rfl,rfl,rfl,rfl⟩
set_option maxRecDepth 100000 in
theorem aek:cf.sz 102=4/\cf.bytes 102=32/\cf.zero 102=[(.int .i64 0),(.int .i64 0),(.int .i64 0),(.int .i64 0)]/\cf.ty 103=(.struct [(0,3),(1,3),(2,3),(3,3)])/\cf.sz 103=4/\cf.bytes 103=32/\cf.zero 103=[(.int .i64 0),(.int .i64 0),(.int .i64 0),(.int .i64 0)]/\cf.ty 104=(.struct [(0,103),(4,3),(5,3)])/\cf.sz 104=6/\cf.bytes 104=48/\cf.zero 104=[(.int .i64 0),(.int .i64 0),(.int .i64 0),(.int .i64 0),(.int .i64 0),(.int .i64 0)]/\cf.ty 105=(.struct [(0,103),(4,3),(5,3)])/\cf.sz 105=6/\cf.bytes 105=48/\cf.zero 105=[(.int .i64 0),(.int .i64 0),(.int .i64 0),(.int .i64 0),(.int .i64 0),(.int .i64 0)]/\cf.ty 106 = .plain/\cf.sz 106=1/\cf.ty 107 = .plain/\cf.sz 107=1/\cf.ty 108 = .plain/\cf.sz 108=1/\cf.ty 109 = .plain/\cf.sz 109=1/\cf.ty 110 = .plain/\cf.sz 110=1/\cf.ty 111 = .plain/\cf.sz 111=1/\cf.ty 112=(.arr 2 3)/\cf.sz 112=2/\cf.bytes 112=16/\cf.zero 112=[(.int .i64 0),(.int .i64 0)]/\cf.ty 113 = .plain/\cf.sz 113=1/\cf.ty 114 = .plain/\cf.sz 114=1/\cf.ty 115 = .plain/\cf.sz 115=1/\cf.ty 116 = .plain/\cf.sz 116=1/\cf.ty 117 = .plain/\cf.sz 117=1/\cf.ty 118 = .plain/\cf.sz 118=1/\cf.ty 119 = .plain/\cf.sz 119=1/\cf.ty 120=(.slice 123)/\cf.sz 120=1/\cf.bytes 120=24/\cf.zero 120=[(.slice none 0 0)]:=⟨rfl,rfl,rfl,rfl,rfl,rfl,rfl,rfl,rfl,rfl,rfl,rfl,rfl,rfl,rfl,rfl,rfl,rfl,rfl,rfl,rfl,rfl,rfl,rfl,rfl,rfl,rfl,rfl,rfl,rfl,rfl,rfl,rfl,rfl,rfl,rfl,rfl,rfl,rfl,rfl,rfl,rfl,rfl,rfl,rfl,rfl,rfl,rfl,rfl⟩
set_option maxRecDepth 100000 in
theorem ael:cf.ty 121=(.slice 120)/\cf.sz 121=1/\cf.bytes 121=24/\cf.zero 121=[(.slice none 0 0)]/\cf.ty 122=(.struct [(0,3),(1,3),(2,3),(3,3)])/\cf.sz 122=4/\cf.bytes 122=32/\cf.zero 122=[(.int .i64 0),(.int .i64 0),(.int .i64 0),(.int .i64 0)]/\cf.ty 123=(.struct [(0,3),(1,3),(2,3),(3,3)])/\cf.sz 123=4/\cf.bytes 123=32/\cf.zero 123=[(.int .i64 0),(.int .i64 0),(.int .i64 0),(.int .i64 0)]/\cf.ty 124 = .plain/\cf.sz 124=1/\cf.ty 125 = .plain/\cf.sz 125=1/\cf.ty 126 = .plain/\cf.sz 126=1/\cf.ty 127 = .plain/\cf.sz 127=1/\cf.ty 128 = .plain/\cf.sz 128=1/\cf.ty 129 = .plain/\cf.sz 129=1/\cf.ty 130 = .plain/\cf.sz 130=1/\cf.ty 131 = .plain/\cf.sz 131=1/\cf.ty 133 = .plain/\cf.sz 133=1/\cf.ty 134 = .plain/\cf.sz 134=1/\cf.ty 135 = .plain/\cf.sz 135=1/\cf.ty 136 = .plain/\cf.sz 136=1/\cf.ty 137 = .plain/\cf.sz 137=1/\cf.ty 138 = .plain/\cf.sz 138=1/\cf.ty 139=(.slice 186)/\cf.sz 139=1/\cf.bytes 139=24/\cf.zero 139=[(.slice none 0 0)]/\cf.ty 140 = .plain/\cf.sz 140=1/\cf.ty 141 = .plain/\cf.sz 141=1/\cf.ty 142 = .plain:=⟨rfl,rfl,rfl,rfl,rfl,rfl,rfl,rfl,rfl,rfl,rfl,rfl,rfl,rfl,rfl,rfl,rfl,rfl,rfl,rfl,rfl,rfl,rfl,rfl,rfl,rfl,rfl,rfl,rfl,rfl,rfl,rfl,rfl,rfl,rfl,rfl,rfl,rfl,rfl,rfl,rfl,rfl,rfl,rfl,rfl,rfl,rfl,rfl,rfl⟩
set_option maxRecDepth 100000 in
theorem aem:cf.sz 142=1/\cf.ty 143 = .plain/\cf.sz 143=1/\cf.ty 145 = .plain/\cf.sz 145=1/\cf.ty 146 = .plain/\cf.sz 146=1/\cf.ty 147 = .plain/\cf.sz 147=1/\cf.ty 148 = .plain/\cf.sz 148=1/\cf.ty 150 = .plain/\cf.sz 150=1/\cf.ty 151 = .plain/\cf.sz 151=1/\cf.ty 152 = .plain/\cf.sz 152=1/\cf.ty 153 = .plain/\cf.sz 153=1/\cf.ty 154=(.slice 103)/\cf.sz 154=1/\cf.bytes 154=24/\cf.zero 154=[(.slice none 0 0)]/\cf.ty 156 = .plain/\cf.sz 156=1/\cf.ty 157 = .plain/\cf.sz 157=1/\cf.ty 159 = .plain/\cf.sz 159=1/\cf.ty 160 = .plain/\cf.sz 160=1/\cf.ty 161 = .plain/\cf.sz 161=1/\cf.ty 162 = .plain/\cf.sz 162=1/\cf.ty 163 = .plain/\cf.sz 163=1/\cf.ty 164=(.struct [(0,22)])/\cf.sz 164=1/\cf.bytes 164=24/\cf.zero 164=[(.slice none 0 0)]/\cf.ty 165=(.struct [(0,22)])/\cf.sz 165=1/\cf.bytes 165=24/\cf.zero 165=[(.slice none 0 0)]/\cf.ty 166 = .plain/\cf.sz 166=1/\cf.ty 167 = .plain/\cf.sz 167=1:=⟨rfl,rfl,rfl,rfl,rfl,rfl,rfl,rfl,rfl,rfl,rfl,rfl,rfl,rfl,rfl,rfl,rfl,rfl,rfl,rfl,rfl,rfl,rfl,rfl,rfl,rfl,rfl,rfl,rfl,rfl,rfl,rfl,rfl,rfl,rfl,rfl,rfl,rfl,rfl,rfl,rfl,rfl,rfl,rfl,rfl,rfl,rfl,rfl,rfl⟩
set_option maxRecDepth 100000 in
theorem aen:cf.ty 168 = .plain/\cf.sz 168=1/\cf.ty 169 = .plain/\cf.sz 169=1/\cf.ty 170 = .plain/\cf.sz 170=1/\cf.ty 171 = .plain/\cf.sz 171=1/\cf.ty 172 = .plain/\cf.sz 172=1/\cf.ty 173 = .plain/\cf.sz 173=1/\cf.ty 174 = .plain/\cf.sz 174=1/\cf.ty 175 = .plain/\cf.sz 175=1/\cf.ty 176 = .plain/\cf.sz 176=1/\cf.ty 177 = .plain/\cf.sz 177=1/\cf.ty 178 = .plain/\cf.sz 178=1/\cf.ty 179=(.struct [(0,47),(1,154),(2,3)])/\cf.sz 179=3/\cf.bytes 179=56/\cf.zero 179=[(.slice none 0 0),(.slice none 0 0),(.int .i64 0)]/\cf.ty 180=(.struct [(0,47),(1,154),(2,3)])/\cf.sz 180=3/\cf.bytes 180=56/\cf.zero 180=[(.slice none 0 0),(.slice none 0 0),(.int .i64 0)]/\cf.ty 181=(.struct [(0,22),(1,22),(2,22),(3,4)])/\cf.sz 181=4/\cf.bytes 181=80/\cf.zero 181=[(.slice none 0 0),(.slice none 0 0),(.slice none 0 0),(.bool false)]/\cf.ty 182=(.struct [(0,22),(1,22),(2,22),(3,4)])/\cf.sz 182=4/\cf.bytes 182=80/\cf.zero 182=[(.slice none 0 0),(.slice none 0 0),(.slice none 0 0),(.bool false)]/\cf.ty 183 = .plain/\cf.sz 183=1/\cf.ty 184 = .plain/\cf.sz 184=1/\cf.ty 185 = .plain/\cf.sz 185=1/\cf.ty 186=(.slice 4)/\cf.sz 186=1/\cf.bytes 186=24/\cf.zero 186=[(.slice none 0 0)]/\cf.ty 187 = .plain:=⟨rfl,rfl,rfl,rfl,rfl,rfl,rfl,rfl,rfl,rfl,rfl,rfl,rfl,rfl,rfl,rfl,rfl,rfl,rfl,rfl,rfl,rfl,rfl,rfl,rfl,rfl,rfl,rfl,rfl,rfl,rfl,rfl,rfl,rfl,rfl,rfl,rfl,rfl,rfl,rfl,rfl,rfl,rfl,rfl,rfl,rfl,rfl,rfl,rfl⟩
set_option maxRecDepth 100000 in
theorem Zb:cf.sz 187=1/\cf.ty 188=(.slice 192)/\cf.sz 188=1/\cf.bytes 188=24/\cf.zero 188=[(.slice none 0 0)]/\cf.ty 189=(.struct [(0,186),(1,188)])/\cf.sz 189=2/\cf.bytes 189=48/\cf.zero 189=[(.slice none 0 0),(.slice none 0 0)]/\cf.ty 190=(.struct [(0,186),(1,188)])/\cf.sz 190=2/\cf.bytes 190=48/\cf.zero 190=[(.slice none 0 0),(.slice none 0 0)]/\cf.ty 191 = .plain/\cf.sz 191=1/\cf.ty 192=(.slice 194)/\cf.sz 192=1/\cf.bytes 192=24/\cf.zero 192=[(.slice none 0 0)]/\cf.ty 193=(.struct [(0,3),(1,3)])/\cf.sz 193=2/\cf.bytes 193=16/\cf.zero 193=[(.int .i64 0),(.int .i64 0)]/\cf.ty 194=(.struct [(0,3),(1,3)])/\cf.sz 194=2/\cf.bytes 194=16/\cf.zero 194=[(.int .i64 0),(.int .i64 0)]/\cf.ty 195 = .plain/\cf.sz 195=1/\cf.ty 196 = .plain/\cf.sz 196=1/\cf.bytes 196=8/\cf.zero 196=[(.int .u64 0)]/\cf.ty 198 = .plain/\cf.sz 198=1/\cf.ty 199 = .plain/\cf.sz 199=1/\cf.ty 200 = .plain/\cf.sz 200=1/\cf.ty 201 = .plain/\cf.sz 201=1/\cf.ty 202 = .plain/\cf.sz 202=1/\cf.ty 203 = .plain/\cf.sz 203=1/\cf.ty 204 = .plain/\cf.sz 204=1/\cf.ty 205 = .plain/\cf.sz 205=1:=⟨rfl,rfl,rfl,rfl,rfl,rfl,rfl,rfl,rfl,rfl,rfl,rfl,rfl,rfl,rfl,rfl,rfl,rfl,rfl,rfl,rfl,rfl,rfl,rfl,rfl,rfl,rfl,rfl,rfl,rfl,rfl,rfl,rfl,rfl,rfl,rfl,rfl,rfl,rfl,rfl,rfl,rfl,rfl,rfl,rfl,rfl,rfl,rfl,rfl⟩
set_option maxRecDepth 100000 in
theorem Zc:cf.ty 206 = .plain/\cf.sz 206=1/\cf.ty 207 = .plain/\cf.sz 207=1/\cf.ty 208 = .plain/\cf.sz 208=1/\cf.ty 209 = .plain/\cf.sz 209=1/\cf.ty 210 = .plain/\cf.sz 210=1/\cf.ty 211 = .plain/\cf.sz 211=1/\cf.ty 212=(.slice 214)/\cf.sz 212=1/\cf.bytes 212=24/\cf.zero 212=[(.slice none 0 0)]/\cf.ty 213=(.struct [(0,4),(1,3),(2,3)])/\cf.sz 213=3/\cf.bytes 213=24/\cf.zero 213=[(.bool false),(.int .i64 0),(.int .i64 0)]/\cf.ty 214=(.struct [(0,4),(1,3),(2,3)])/\cf.sz 214=3/\cf.bytes 214=24/\cf.zero 214=[(.bool false),(.int .i64 0),(.int .i64 0)]/\cf.ty 215 = .plain/\cf.sz 215=1/\cf.ty 216 = .plain/\cf.sz 216=1/\cf.bytes 216=4/\cf.zero 216=[(.int .u32 0)]/\cf.ty 218 = .plain/\cf.sz 218=1/\cf.ty 220 = .plain/\cf.sz 220=1/\cf.ty 221 = .plain/\cf.sz 221=1/\cf.ty 222 = .plain/\cf.sz 222=1/\cf.ty 223 = .plain/\cf.sz 223=1/\cf.ty 224 = .plain/\cf.sz 224=1/\cf.ty 225 = .plain/\cf.sz 225=1/\cf.ty 226 = .plain/\cf.sz 226=1/\cf.ty 227=(.struct [(0,17),(1,17),(2,17),(3,9)])/\cf.sz 227=4/\cf.bytes 227=40:=⟨rfl,rfl,rfl,rfl,rfl,rfl,rfl,rfl,rfl,rfl,rfl,rfl,rfl,rfl,rfl,rfl,rfl,rfl,rfl,rfl,rfl,rfl,rfl,rfl,rfl,rfl,rfl,rfl,rfl,rfl,rfl,rfl,rfl,rfl,rfl,rfl,rfl,rfl,rfl,rfl,rfl,rfl,rfl,rfl,rfl,rfl,rfl,rfl,rfl⟩
set_option maxRecDepth 100000 in
theorem Zd:cf.zero 227=[(.pointer none),(.pointer none),(.pointer none),(.string ⟨#[]⟩)]/\cf.ty 228=(.struct [(0,17),(1,17),(2,17),(3,9)])/\cf.sz 228=4/\cf.bytes 228=40/\cf.zero 228=[(.pointer none),(.pointer none),(.pointer none),(.string ⟨#[]⟩)]/\cf.ty 232 = .plain/\cf.sz 232=1/\cf.bytes 232=1/\cf.zero 232=[(.int .u8 0)]/\cf.ty 233 = .plain/\cf.sz 233=1/\cf.bytes 233=1/\cf.zero 233=[(.int .u8 0)]/\cf.ty 234 = .plain/\cf.sz 234=1/\cf.ty 235 = .plain/\cf.sz 235=1/\cf.ty 236 = .plain/\cf.sz 236=1/\cf.bytes 236=4/\cf.zero 236=[(.int .i32 0)]/\cf.ty 237 = .plain/\cf.sz 237=1/\cf.bytes 237=4/\cf.zero 237=[(.int .i32 0)]/\cf.ty 238=(.struct [(0,12),(1,12),(2,216),(3,232),(4,5),(5,5),(6,233),(7,234),(8,235),(9,236),(10,237)])/\cf.sz 238=11/\cf.bytes 238=48/\cf.zero 238=[(.int .u64 0),(.int .u64 0),(.int .u32 0),(.int .u8 0),(.int .u8 0),(.int .u8 0),(.int .u8 0),(.nilFunc),(.pointer none),(.int .i32 0),(.int .i32 0)]/\cf.ty 239=(.struct [(0,12),(1,12),(2,216),(3,232),(4,5),(5,5),(6,233),(7,234),(8,235),(9,236),(10,237)])/\cf.sz 239=11/\cf.bytes 239=48/\cf.zero 239=[(.int .u64 0),(.int .u64 0),(.int .u32 0),(.int .u8 0),(.int .u8 0),(.int .u8 0),(.int .u8 0),(.nilFunc),(.pointer none),(.int .i32 0),(.int .i32 0)]/\cf.eqa 112=true/\cf.eqs 38=true/\cf.eqs 39=true/\cf.eqs 75=true/\cf.eqs 76=true/\cf.eqs 193=true/\cf.eqs 194=true:=⟨rfl,rfl,rfl,rfl,rfl,rfl,rfl,rfl,rfl,rfl,rfl,rfl,rfl,rfl,rfl,rfl,rfl,rfl,rfl,rfl,rfl,rfl,rfl,rfl,rfl,rfl,rfl,rfl,rfl,rfl,rfl,rfl,rfl,rfl,rfl,rfl,rfl,rfl,rfl,rfl⟩
theorem xr1:type_of% (⟨@sW.eq_1,@sW.eq_2,@stepW.eq_1,@tq.eq_1,@Vj.eq_1,@QV.eq_1,@guardOf.eq_1,@qev.eq_1,@qev.eq_2,@qev.eq_3,@qev.eq_4,@qev.eq_5,@qev.eq_6,@qev.eq_7,@qev.eq_8,@Lp,@qev.eq_12,@qev.eq_13,@yL,@qev.eq_16,@qev.eq_17,@qev.eq_18,@qev.eq_19,@mY.eq_1,@mY.eq_2,@Cn.part.eq_1,@Cn.part.eq_2,@Cn.part.eq_3,@Cn.part.eq_4,@Cn.part.eq_5⟩:_/\_/\_/\_/\_/\_/\_/\_/\_/\_/\_/\_/\_/\_/\_/\_/\_/\_/\_/\_/\_/\_/\_/\_/\_/\_/\_/\_/\_/\_):=⟨@sW.eq_1,@sW.eq_2,@stepW.eq_1,@tq.eq_1,@Vj.eq_1,@QV.eq_1,@guardOf.eq_1,@qev.eq_1,@qev.eq_2,@qev.eq_3,@qev.eq_4,@qev.eq_5,@qev.eq_6,@qev.eq_7,@qev.eq_8,@Lp,@qev.eq_12,@qev.eq_13,@yL,@qev.eq_16,@qev.eq_17,@qev.eq_18,@qev.eq_19,@mY.eq_1,@mY.eq_2,@Cn.part.eq_1,@Cn.part.eq_2,@Cn.part.eq_3,@Cn.part.eq_4,@Cn.part.eq_5⟩
theorem xr2:type_of% (⟨@Cn.part.eq_6,@Cn.part.eq_7,@Cn.part.eq_8,@Cn.part.eq_9,@Cn.part.eq_10,@Ze,@Zf,@Zg,@arith.eq_1,@arith.eq_2,@arith.eq_3,@arith.eq_4,@arith.eq_5,@arith.eq_6,@arith.eq_7,@arith.eq_8,@arith.eq_9,@arith.eq_10,@arith.eq_11,@arith.eq_12,@arith.eq_13,@arith.eq_14,@arith.eq_15,@arith.eq_16,@adr.eq_1,@adr.eq_2,@adr.eq_3,@adr.eq_4,@adr.eq_5,@step1.eq_1⟩:_/\_/\_/\_/\_/\_/\_/\_/\_/\_/\_/\_/\_/\_/\_/\_/\_/\_/\_/\_/\_/\_/\_/\_/\_/\_/\_/\_/\_/\_):=⟨@Cn.part.eq_6,@Cn.part.eq_7,@Cn.part.eq_8,@Cn.part.eq_9,@Cn.part.eq_10,@Ze,@Zf,@Zg,@arith.eq_1,@arith.eq_2,@arith.eq_3,@arith.eq_4,@arith.eq_5,@arith.eq_6,@arith.eq_7,@arith.eq_8,@arith.eq_9,@arith.eq_10,@arith.eq_11,@arith.eq_12,@arith.eq_13,@arith.eq_14,@arith.eq_15,@arith.eq_16,@adr.eq_1,@adr.eq_2,@adr.eq_3,@adr.eq_4,@adr.eq_5,@step1.eq_1⟩
theorem xr3:type_of% (⟨@step1.eq_2,@step1.eq_3,@step1.eq_4,@step1.eq_5,@lenOf.eq_1,@lenOf.eq_2,@lenOf.eq_3,@lenOf.eq_4,@lenOf.eq_5,@params.eq_1,@params.eq_2,@Qw,@Lm,@KQ,@DK,@Gp,@tH,@QU,@Option.all_some.{0},@Option.all_none.{0},@yt,@Gg,@AV.map.eq_1,@AV.map.eq_2,@AV.map.eq_3,@TV.map.eq_1,@TV.map.eq_2,@Lf.kill.eq_1,@Lf.kill.eq_2,@Lf.kill.eq_3⟩:_/\_/\_/\_/\_/\_/\_/\_/\_/\_/\_/\_/\_/\_/\_/\_/\_/\_/\_/\_/\_/\_/\_/\_/\_/\_/\_/\_/\_/\_):=⟨@step1.eq_2,@step1.eq_3,@step1.eq_4,@step1.eq_5,@lenOf.eq_1,@lenOf.eq_2,@lenOf.eq_3,@lenOf.eq_4,@lenOf.eq_5,@params.eq_1,@params.eq_2,@Qw,@Lm,@KQ,@DK,@Gp,@tH,@QU,@Option.all_some.{0},@Option.all_none.{0},@yt,@Gg,@AV.map.eq_1,@AV.map.eq_2,@AV.map.eq_3,@TV.map.eq_1,@TV.map.eq_2,@Lf.kill.eq_1,@Lf.kill.eq_2,@Lf.kill.eq_3⟩
theorem xr4:type_of% (⟨@Lf.kill.eq_4,@Ob.map.eq_1,@Ob.map.eq_2,@Ob.map.eq_3,@oh,@lq,@lg,@Nat.beq_refl,@oq,@lu,@zeros.eq_1,@ji.eq_1,@ji.eq_2,@ji.eq_3,@ji.eq_4,@emp.eq_1,@Cn.put.eq_1,@Cn.put.eq_2,@Cn.put.eq_3,@Cn.put.eq_4,@Cn.put.eq_5,@Cn.put.eq_6,@Cn.put.eq_7,@Cn.put.eq_8,@Cn.put.eq_9,@Cn.put.eq_10,@Cn.put.eq_11,@Cn.app.eq_1,@Cn.app.eq_2,@Cn.app.eq_3⟩:_/\_/\_/\_/\_/\_/\_/\_/\_/\_/\_/\_/\_/\_/\_/\_/\_/\_/\_/\_/\_/\_/\_/\_/\_/\_/\_/\_/\_/\_):=⟨@Lf.kill.eq_4,@Ob.map.eq_1,@Ob.map.eq_2,@Ob.map.eq_3,@oh,@lq,@lg,@Nat.beq_refl,@oq,@lu,@zeros.eq_1,@ji.eq_1,@ji.eq_2,@ji.eq_3,@ji.eq_4,@emp.eq_1,@Cn.put.eq_1,@Cn.put.eq_2,@Cn.put.eq_3,@Cn.put.eq_4,@Cn.put.eq_5,@Cn.put.eq_6,@Cn.put.eq_7,@Cn.put.eq_8,@Cn.put.eq_9,@Cn.put.eq_10,@Cn.put.eq_11,@Cn.app.eq_1,@Cn.app.eq_2,@Cn.app.eq_3⟩
theorem xr5:type_of% (⟨@Cn.app.eq_4,@Cn.app.eq_5,@Cn.app.eq_6,@Cn.app.eq_7,@Cn.app.eq_8,@Cn.app.eq_9,@content.eq_1,@content.eq_2,@content.eq_3,@intsOf.eq_1,@intsOf.eq_2,@intsOf.eq_3,@mG.eq_1,@mG.eq_2,@mG.eq_3,@mG.eq_4,@mG.eq_5,@mG.eq_6,@mG.eq_7,@mG.eq_8,@mG.eq_9,@mG.eq_10,@sF.eq_1,@sF.eq_2,@sF.eq_3,@sV.eq_1,@nN.eq_1,@xG.eq_1,@TV.cs.eq_1,@TV.cs.eq_2⟩:_/\_/\_/\_/\_/\_/\_/\_/\_/\_/\_/\_/\_/\_/\_/\_/\_/\_/\_/\_/\_/\_/\_/\_/\_/\_/\_/\_/\_/\_):=⟨@Cn.app.eq_4,@Cn.app.eq_5,@Cn.app.eq_6,@Cn.app.eq_7,@Cn.app.eq_8,@Cn.app.eq_9,@content.eq_1,@content.eq_2,@content.eq_3,@intsOf.eq_1,@intsOf.eq_2,@intsOf.eq_3,@mG.eq_1,@mG.eq_2,@mG.eq_3,@mG.eq_4,@mG.eq_5,@mG.eq_6,@mG.eq_7,@mG.eq_8,@mG.eq_9,@mG.eq_10,@sF.eq_1,@sF.eq_2,@sF.eq_3,@sV.eq_1,@nN.eq_1,@xG.eq_1,@TV.cs.eq_1,@TV.cs.eq_2⟩
theorem xr6:type_of% (⟨@TV.dU.eq_1,@splice.eq_1,@splice.eq_2,@splice.eq_3,@splice.eq_4,@Lf.dU.eq_1,@Lf.dU.eq_2,@Lf.dU.eq_3,@Lf.dU.eq_4,@Lf.dU.eq_5,@Lf.dU.eq_6,@Lf.dU.eq_7,@List.foldl_cons.{0,0},@List.foldl_nil.{0,0},@List.all_cons.{0},@List.all_nil.{0},@O6,@true_and,@and_true,@need.eq_1,@cond_true.{1},@cond_false.{1},@nS.eq_1,@nS.eq_2,@gB.eq_1,@gB.eq_2,@List.getElem?_toArray.{0},@List.getElem?_cons_succ.{0},@List.getElem?_cons_zero.{0},@Option.bind_some.{0,0}⟩:_/\_/\_/\_/\_/\_/\_/\_/\_/\_/\_/\_/\_/\_/\_/\_/\_/\_/\_/\_/\_/\_/\_/\_/\_/\_/\_/\_/\_/\_):=⟨@TV.dU.eq_1,@splice.eq_1,@splice.eq_2,@splice.eq_3,@splice.eq_4,@Lf.dU.eq_1,@Lf.dU.eq_2,@Lf.dU.eq_3,@Lf.dU.eq_4,@Lf.dU.eq_5,@Lf.dU.eq_6,@Lf.dU.eq_7,@List.foldl_cons.{0,0},@List.foldl_nil.{0,0},@List.all_cons.{0},@List.all_nil.{0},@O6,@true_and,@and_true,@need.eq_1,@cond_true.{1},@cond_false.{1},@nS.eq_1,@nS.eq_2,@gB.eq_1,@gB.eq_2,@List.getElem?_toArray.{0},@List.getElem?_cons_succ.{0},@List.getElem?_cons_zero.{0},@Option.bind_some.{0,0}⟩
theorem xr7:type_of% (⟨@Option.bind_none.{0,0},@OW,@OV,@Bool.true_and,@Bool.and_true,@Bool.not_not,@Bool.not_eq_false',@cellsOf.eq_1,@cellsOf.eq_2,@cellsOf.eq_3,@cellsOf.eq_4,@cellsOf.eq_5,@cellsOf.eq_6,@cellsOf.eq_7,@cellsOf.eq_8,@qX.eq_1,@qX.eq_2,@kZ.eq_1,@kZ.eq_2,@kZ.eq_3,@List.length_nil.{0},@List.length_cons.{0},@List.append_nil.{0},@List.nil_append.{0},@List.cons_append.{0},@List.getElem?_nil.{0},@Ty.agg.eq_1,@Ty.agg.eq_2,@Ty.agg.eq_3,@List.getD_cons_zero.{0}⟩:_/\_/\_/\_/\_/\_/\_/\_/\_/\_/\_/\_/\_/\_/\_/\_/\_/\_/\_/\_/\_/\_/\_/\_/\_/\_/\_/\_/\_/\_):=⟨@Option.bind_none.{0,0},@OW,@OV,@Bool.true_and,@Bool.and_true,@Bool.not_not,@Bool.not_eq_false',@cellsOf.eq_1,@cellsOf.eq_2,@cellsOf.eq_3,@cellsOf.eq_4,@cellsOf.eq_5,@cellsOf.eq_6,@cellsOf.eq_7,@cellsOf.eq_8,@qX.eq_1,@qX.eq_2,@kZ.eq_1,@kZ.eq_2,@kZ.eq_3,@List.length_nil.{0},@List.length_cons.{0},@List.append_nil.{0},@List.nil_append.{0},@List.cons_append.{0},@List.getElem?_nil.{0},@Ty.agg.eq_1,@Ty.agg.eq_2,@Ty.agg.eq_3,@List.getD_cons_zero.{0}⟩
theorem xr8:type_of% (⟨@List.getD_cons_succ.{0},@List.getD_nil.{0},@bQ.eq_1,@uQ.eq_1,@uQ.eq_2,@MI.eq_1,@xZ.eq_1,@xZ.eq_2,@lI.eq_1,@jF.eq_1,@fQ.eq_1,@fQ.eq_2,@fQ.eq_3,@fQ.eq_4,@view.eq_1,@view.eq_2,@view.eq_3,@view.eq_4,@view.eq_5,@qg.eq_1,@qg.eq_2,@qg.eq_3,@JH,@List.mapM_cons.{0,0,0},@List.mapM_nil.{0,0,0},@Option.map_some.{0,0},@Option.some.injEq.{0},@Prod.mk.injEq.{0,0},@exists_and_left.{1},@exists_eq_left'.{1}⟩:_/\_/\_/\_/\_/\_/\_/\_/\_/\_/\_/\_/\_/\_/\_/\_/\_/\_/\_/\_/\_/\_/\_/\_/\_/\_/\_/\_/\_/\_):=⟨@List.getD_cons_succ.{0},@List.getD_nil.{0},@bQ.eq_1,@uQ.eq_1,@uQ.eq_2,@MI.eq_1,@xZ.eq_1,@xZ.eq_2,@lI.eq_1,@jF.eq_1,@fQ.eq_1,@fQ.eq_2,@fQ.eq_3,@fQ.eq_4,@view.eq_1,@view.eq_2,@view.eq_3,@view.eq_4,@view.eq_5,@qg.eq_1,@qg.eq_2,@qg.eq_3,@JH,@List.mapM_cons.{0,0,0},@List.mapM_nil.{0,0,0},@Option.map_some.{0,0},@Option.some.injEq.{0},@Prod.mk.injEq.{0,0},@exists_and_left.{1},@exists_eq_left'.{1}⟩
theorem xr9:type_of% (⟨@exists_eq_left.{1},@exists_eq_right.{1},@List.map_nil.{0,0},@List.map_cons.{0,0},@List.mem_cons.{0},@List.not_mem_nil.{0},@or_false,@List.range_succ_eq_map,@List.range_zero,@Cn.len.eq_1,@Cn.len.eq_2,@Cn.len.eq_3,@Cn.len.eq_4,@Cn.len.eq_5,@Cn.len.eq_6,@Cn.len.eq_7,@Cn.len.eq_8,@Cn.len.eq_9,@Cn.len.eq_10,@Cn.w.eq_1,@Cn.w.eq_2,@Cn.w.eq_3,@Cn.cell.eq_1,@Cn.cell.eq_2,@Cn.cell.eq_3,@Cn.cell.eq_4,@Cn.cell.eq_5,@Cn.cell.eq_6,@Cn.cell.eq_7,@Cn.cell.eq_8⟩:_/\_/\_/\_/\_/\_/\_/\_/\_/\_/\_/\_/\_/\_/\_/\_/\_/\_/\_/\_/\_/\_/\_/\_/\_/\_/\_/\_/\_/\_):=⟨@exists_eq_left.{1},@exists_eq_right.{1},@List.map_nil.{0,0},@List.map_cons.{0,0},@List.mem_cons.{0},@List.not_mem_nil.{0},@or_false,@List.range_succ_eq_map,@List.range_zero,@Cn.len.eq_1,@Cn.len.eq_2,@Cn.len.eq_3,@Cn.len.eq_4,@Cn.len.eq_5,@Cn.len.eq_6,@Cn.len.eq_7,@Cn.len.eq_8,@Cn.len.eq_9,@Cn.len.eq_10,@Cn.w.eq_1,@Cn.w.eq_2,@Cn.w.eq_3,@Cn.cell.eq_1,@Cn.cell.eq_2,@Cn.cell.eq_3,@Cn.cell.eq_4,@Cn.cell.eq_5,@Cn.cell.eq_6,@Cn.cell.eq_7,@Cn.cell.eq_8⟩
theorem aer:type_of% (⟨@Cn.cell.eq_9,@Cn.cell.eq_10,@Option.pure_def.{0},@Option.bind_eq_bind.{0},@and_assoc,@dR.eq_1,@dR.eq_2,@Um.eq_1,@uq,@yh,@Int.toNat_natCast,@Int.toNat_zero,@false_and,@and_false,@exists_false.{1},@false_or,@List.set_cons_zero.{0},@List.set_cons_succ.{0},@List.set_nil.{0},@forall_const.{0},@forall_const.{1},@exists_const.{1},@implies_true.{0},@implies_true.{1},@imp_self,@false_implies,@forall_eq.{1},@forall_eq_or_imp.{1},@Ob.cn.eq_1,@Ob.cn.eq_2⟩:_/\_/\_/\_/\_/\_/\_/\_/\_/\_/\_/\_/\_/\_/\_/\_/\_/\_/\_/\_/\_/\_/\_/\_/\_/\_/\_/\_/\_/\_):=⟨@Cn.cell.eq_9,@Cn.cell.eq_10,@Option.pure_def.{0},@Option.bind_eq_bind.{0},@and_assoc,@dR.eq_1,@dR.eq_2,@Um.eq_1,@uq,@yh,@Int.toNat_natCast,@Int.toNat_zero,@false_and,@and_false,@exists_false.{1},@false_or,@List.set_cons_zero.{0},@List.set_cons_succ.{0},@List.set_nil.{0},@forall_const.{0},@forall_const.{1},@exists_const.{1},@implies_true.{0},@implies_true.{1},@imp_self,@false_implies,@forall_eq.{1},@forall_eq_or_imp.{1},@Ob.cn.eq_1,@Ob.cn.eq_2⟩
theorem aes:type_of% (⟨@Ob.cn.eq_3,@Ob.cn.eq_4,@Ob.cn.eq_5,@Ob.oO.eq_1,@Ob.oO.eq_2,@Ob.oO.eq_3,@Ob.oO.eq_4,@Ob.oO.eq_5,@Cn.pV.eq_1,@Cn.pV.eq_2,@Cn.pV.eq_3,@Cn.pV.eq_4,@Cn.pV.eq_5,@Cn.wrap.eq_1,@Cn.wrap.eq_2,@Cn.wrap.eq_3,@Cn.wrap.eq_4,@Cn.wrap.eq_5,@Cn.sub.eq_1,@Cn.sub.eq_2,@Cn.sub.eq_3,@Cn.sub.eq_4,@Cn.sub.eq_5,@Cn.deep.eq_1,@Cn.deep.eq_2,@Cn.deep.eq_3,@Cn.deep.eq_4,@Cn.deep.eq_5,@Cn.deep.eq_6,@Cn.deep.eq_7⟩:_/\_/\_/\_/\_/\_/\_/\_/\_/\_/\_/\_/\_/\_/\_/\_/\_/\_/\_/\_/\_/\_/\_/\_/\_/\_/\_/\_/\_/\_):=⟨@Ob.cn.eq_3,@Ob.cn.eq_4,@Ob.cn.eq_5,@Ob.oO.eq_1,@Ob.oO.eq_2,@Ob.oO.eq_3,@Ob.oO.eq_4,@Ob.oO.eq_5,@Cn.pV.eq_1,@Cn.pV.eq_2,@Cn.pV.eq_3,@Cn.pV.eq_4,@Cn.pV.eq_5,@Cn.wrap.eq_1,@Cn.wrap.eq_2,@Cn.wrap.eq_3,@Cn.wrap.eq_4,@Cn.wrap.eq_5,@Cn.sub.eq_1,@Cn.sub.eq_2,@Cn.sub.eq_3,@Cn.sub.eq_4,@Cn.sub.eq_5,@Cn.deep.eq_1,@Cn.deep.eq_2,@Cn.deep.eq_3,@Cn.deep.eq_4,@Cn.deep.eq_5,@Cn.deep.eq_6,@Cn.deep.eq_7⟩
theorem aeu:type_of% (⟨@Cn.deep.eq_8,@Cn.deep.eq_9,@Cn.deep.eq_10,@levels.eq_1,@sWo.eq_1,@sWo.eq_2,@sWo.eq_3,@sWo.eq_4,@QN.eq_1,@Vh.eq_1,@dFr.eq_1,@dFr.eq_2,@dFr.eq_3,@TP,@JD,@Vs,@Vt,@oK.eq_1,@Kq,@flat_1,@flat_2,@flat_3,@flat_4,@flat_5,@flat_6,@flat_7,@flat_8,@flat_9,@flat_10,@Lf.eG.eq_1⟩:_/\_/\_/\_/\_/\_/\_/\_/\_/\_/\_/\_/\_/\_/\_/\_/\_/\_/\_/\_/\_/\_/\_/\_/\_/\_/\_/\_/\_/\_):=⟨@Cn.deep.eq_8,@Cn.deep.eq_9,@Cn.deep.eq_10,@levels.eq_1,@sWo.eq_1,@sWo.eq_2,@sWo.eq_3,@sWo.eq_4,@QN.eq_1,@Vh.eq_1,@dFr.eq_1,@dFr.eq_2,@dFr.eq_3,@TP,@JD,@Vs,@Vt,@oK.eq_1,@Kq,@flat_1,@flat_2,@flat_3,@flat_4,@flat_5,@flat_6,@flat_7,@flat_8,@flat_9,@flat_10,@Lf.eG.eq_1⟩
theorem aev:type_of% (⟨@Lf.eG.eq_2,@Lf.eG.eq_3,@Lf.ren.eq_1,@Lf.ren.eq_2,@Lf.ren.eq_3,@cu.eq_1,@plug.eq_1,@plug.eq_2,@lost.eq_1,@lost.eq_2,@lost.eq_3,@dM.eq_1,@dM.eq_2,@Ls.eq_1,@bU.eq_1,@bU.eq_2,@bU.eq_3,@bU.eq_4,@bU.eq_5,@bU.eq_6,@bU.eq_7,@bU.eq_8,@bU.eq_9,@bU.eq_10,@bU.eq_11,@bU.eq_12,@bU.eq_13,@bU.eq_14,@bU.eq_15,@jy.eq_1⟩:_/\_/\_/\_/\_/\_/\_/\_/\_/\_/\_/\_/\_/\_/\_/\_/\_/\_/\_/\_/\_/\_/\_/\_/\_/\_/\_/\_/\_/\_):=⟨@Lf.eG.eq_2,@Lf.eG.eq_3,@Lf.ren.eq_1,@Lf.ren.eq_2,@Lf.ren.eq_3,@cu.eq_1,@plug.eq_1,@plug.eq_2,@lost.eq_1,@lost.eq_2,@lost.eq_3,@dM.eq_1,@dM.eq_2,@Ls.eq_1,@bU.eq_1,@bU.eq_2,@bU.eq_3,@bU.eq_4,@bU.eq_5,@bU.eq_6,@bU.eq_7,@bU.eq_8,@bU.eq_9,@bU.eq_10,@bU.eq_11,@bU.eq_12,@bU.eq_13,@bU.eq_14,@bU.eq_15,@jy.eq_1⟩
theorem aew:type_of% (⟨@bV.eq_1,@bV.eq_2,@bV.eq_3,@RY.eq_1,@qJ.eq_1,@AV.leaves.eq_1,@AV.leaves.eq_2,@AV.leaves.eq_3,@TV.leaves.eq_1,@TV.leaves.eq_2,@Za,@Qz,@Wy,@Wx,@Y7,@Qm,@VO,@VP,@VL,@P9,@Gh,@Kz,@Ky,@decide_true,@List.contains_cons.{0},@List.contains_nil.{0},@Bool.false_or,@Bool.true_or,@Bool.or_true,@Bool.or_false⟩:_/\_/\_/\_/\_/\_/\_/\_/\_/\_/\_/\_/\_/\_/\_/\_/\_/\_/\_/\_/\_/\_/\_/\_/\_/\_/\_/\_/\_/\_):=⟨@bV.eq_1,@bV.eq_2,@bV.eq_3,@RY.eq_1,@qJ.eq_1,@AV.leaves.eq_1,@AV.leaves.eq_2,@AV.leaves.eq_3,@TV.leaves.eq_1,@TV.leaves.eq_2,@Za,@Qz,@Wy,@Wx,@Y7,@Qm,@VO,@VP,@VL,@P9,@Gh,@Kz,@Ky,@decide_true,@List.contains_cons.{0},@List.contains_nil.{0},@Bool.false_or,@Bool.true_or,@Bool.or_true,@Bool.or_false⟩
theorem aex:type_of% (⟨@Bool.false_and,@Bool.and_false,@Bool.not_false,@Bool.not_true,@YR,@List.take_succ_cons.{0},@List.take_zero.{0},@List.take_nil.{0},@List.length_map.{0,0},@List.length_range,@List.length_set.{0},@List.length_replicate.{0}⟩:_/\_/\_/\_/\_/\_/\_/\_/\_/\_/\_/\_):=⟨@Bool.false_and,@Bool.and_false,@Bool.not_false,@Bool.not_true,@YR,@List.take_succ_cons.{0},@List.take_zero.{0},@List.take_nil.{0},@List.length_map.{0,0},@List.length_range,@List.length_set.{0},@List.length_replicate.{0}⟩
theorem xty:type_of% (⟨aef,aeg,aeh,aei,aej,aek,ael,aem,aen,Zb,Zc,Zd⟩:_/\_/\_/\_/\_/\_/\_/\_/\_/\_/\_/\_):=⟨aef,aeg,aeh,aei,aej,aek,ael,aem,aen,Zb,Zc,Zd⟩
theorem xr:type_of% (⟨xr1,xr2,xr3,xr4,xr5,xr6,xr7,xr8,xr9,aer,aes,aeu,aev,aew,aex,xty⟩:_/\_/\_/\_/\_/\_/\_/\_/\_/\_/\_/\_/\_/\_/\_/\_):=⟨xr1,xr2,xr3,xr4,xr5,xr6,xr7,xr8,xr9,aer,aes,aeu,aev,aew,aex,xty⟩
theorem xq:type_of% (⟨@nS.eq_1,@nS.eq_2,@gB.eq_1,@gB.eq_2⟩:_/\_/\_/\_):=⟨@nS.eq_1,@nS.eq_2,@gB.eq_1,@gB.eq_2⟩
theorem uF (cf:Cfg) (X:St) (xs:List ResultVar) (r:AV):Em cf X xs r=match xs with
  | [x]=>∃ v,nO cf X x v/\(AV.tv v).free=true/\Imp (.tv v) r
  | _=>∃ vs,iZ cf X xs vs/\(AV.tup vs).free=true/\Imp (.tup vs) r:=rfl
theorem QA (cf:Cfg) (X:St) (xs:List ResultVar) (fx:List Bool) (n:Nat) (r:AV) (Hout:List Ob):Oh cf X xs fx n r Hout=∃ τ:List Nat,τ.Nodup/\picks X.H (fun k=>τ.getD k 0) τ Hout/\n<=τ.length/\(∀ k,k<fx.length->fx.getD k false=true->τ.getD k 0=k)/\(∀ o∈Hout,o.lt Hout.length)/\r.lt Hout.length /\
 (match xs with
 | [x]=>∃ v,nO cf X x v/\AV.tv v=r.map (Lf.ren fun k=>τ.getD k 0)
 | _=>∃ vs,iZ cf X xs vs/\AV.tup vs=r.map (Lf.ren fun k=>τ.getD k 0)):=rfl
theorem aC (p:Prop):ends .normal p=p:=rfl
theorem aH (p:Prop):ends .ret p=p:=rfl
theorem xe:type_of% (⟨@aC,@aH,@uF,@iZ.eq_1,@iZ.eq_2,@nO.eq_1,@nO.eq_2,@tH⟩:_/\_/\_/\_/\_/\_/\_/\_):=⟨@aC,@aH,@uF,@iZ.eq_1,@iZ.eq_2,@nO.eq_1,@nO.eq_2,@tH⟩
theorem xec:type_of% (⟨@aC,@aH,@uF,@iZ.eq_1,@iZ.eq_2,@nO.eq_1,@nO.eq_2⟩:_/\_/\_/\_/\_/\_/\_):=⟨@aC,@aH,@uF,@iZ.eq_1,@iZ.eq_2,@nO.eq_1,@nO.eq_2⟩
theorem xh:type_of% (⟨@aC,@aH,@QA⟩:_/\_/\_):=⟨@aC,@aH,@QA⟩
theorem xp:type_of% (⟨@params.eq_1,@params.eq_2,@tH⟩:_/\_/\_):=⟨@params.eq_1,@params.eq_2,@tH⟩
theorem xf:type_of% (⟨@AV.fits.eq_1,@AV.fits.eq_2,@Lf.qA.eq_1,@Lf.qA.eq_2,@Cn.fits.eq_1,@Cn.fits.eq_2,@Cn.fits.eq_3,@Cn.fits.eq_4,@Cn.fits.eq_5,@Cn.fits.eq_6,@Cn.fits.eq_7,@Cn.fits.eq_8,@Cn.fits.eq_9,@Cn.fits.eq_10,@Lf.fits.eq_1,@Lf.fits.eq_2,@tH,@and_true,@lim.eq_1⟩:_/\_/\_/\_/\_/\_/\_/\_/\_/\_/\_/\_/\_/\_/\_/\_/\_/\_/\_):=⟨@AV.fits.eq_1,@AV.fits.eq_2,@Lf.qA.eq_1,@Lf.qA.eq_2,@Cn.fits.eq_1,@Cn.fits.eq_2,@Cn.fits.eq_3,@Cn.fits.eq_4,@Cn.fits.eq_5,@Cn.fits.eq_6,@Cn.fits.eq_7,@Cn.fits.eq_8,@Cn.fits.eq_9,@Cn.fits.eq_10,@Lf.fits.eq_1,@Lf.fits.eq_2,@tH,@and_true,@lim.eq_1⟩
theorem xk:type_of% (⟨@uq,@yh,@List.cons_append.{0},@List.nil_append.{0}⟩:_/\_/\_/\_):=⟨@uq,@yh,@List.cons_append.{0},@List.nil_append.{0}⟩
theorem xz:type_of% (⟨@PO,@Lf.frz.eq_1,@Lf.frz.eq_2,@Lf.frz.eq_3,@Lf.frz.eq_4,@List.map_cons.{0,0},@List.map_nil.{0,0},@AV.map.eq_1,@AV.map.eq_2,@AV.map.eq_3,@TV.map.eq_1,@TV.map.eq_2,@Ob.map.eq_1,@Ob.map.eq_2,@Ob.map.eq_3,@oh,@lq,@lg,@cond_true.{1},@cond_false.{1},@List.set_cons_zero.{0},@List.set_cons_succ.{0},@List.set_nil.{0},@Nat.beq_refl,@oq,@lu⟩:_/\_/\_/\_/\_/\_/\_/\_/\_/\_/\_/\_/\_/\_/\_/\_/\_/\_/\_/\_/\_/\_/\_/\_/\_/\_):=⟨@PO,@Lf.frz.eq_1,@Lf.frz.eq_2,@Lf.frz.eq_3,@Lf.frz.eq_4,@List.map_cons.{0,0},@List.map_nil.{0,0},@AV.map.eq_1,@AV.map.eq_2,@AV.map.eq_3,@TV.map.eq_1,@TV.map.eq_2,@Ob.map.eq_1,@Ob.map.eq_2,@Ob.map.eq_3,@oh,@lq,@lg,@cond_true.{1},@cond_false.{1},@List.set_cons_zero.{0},@List.set_cons_succ.{0},@List.set_nil.{0},@Nat.beq_refl,@oq,@lu⟩
theorem xm:type_of% (⟨@VF,@Yk,@VG,@Y4,@Y3,@Lf.mv.eq_1,@Lf.mv.eq_2,@Lf.mv.eq_3,@List.map_cons.{0,0},@List.map_nil.{0,0},@AV.map.eq_1,@AV.map.eq_2,@AV.map.eq_3,@TV.map.eq_1,@TV.map.eq_2,@Ob.map.eq_1,@Ob.map.eq_2,@Ob.map.eq_3,@oh,@lq,@lg,@cond_true.{1},@cond_false.{1},@List.set_cons_zero.{0},@List.set_cons_succ.{0},@List.set_nil.{0},@Nat.beq_refl,@oq,@lu⟩:_/\_/\_/\_/\_/\_/\_/\_/\_/\_/\_/\_/\_/\_/\_/\_/\_/\_/\_/\_/\_/\_/\_/\_/\_/\_/\_/\_/\_):=⟨@VF,@Yk,@VG,@Y4,@Y3,@Lf.mv.eq_1,@Lf.mv.eq_2,@Lf.mv.eq_3,@List.map_cons.{0,0},@List.map_nil.{0,0},@AV.map.eq_1,@AV.map.eq_2,@AV.map.eq_3,@TV.map.eq_1,@TV.map.eq_2,@Ob.map.eq_1,@Ob.map.eq_2,@Ob.map.eq_3,@oh,@lq,@lg,@cond_true.{1},@cond_false.{1},@List.set_cons_zero.{0},@List.set_cons_succ.{0},@List.set_nil.{0},@Nat.beq_refl,@oq,@lu⟩
theorem xu:type_of% (⟨@yt,@Lf.kill.eq_1,@Lf.kill.eq_2,@Lf.kill.eq_3,@Lf.kill.eq_4,@List.map_cons.{0,0},@List.map_nil.{0,0},@AV.map.eq_1,@AV.map.eq_2,@AV.map.eq_3,@TV.map.eq_1,@TV.map.eq_2,@Ob.map.eq_1,@Ob.map.eq_2,@Ob.map.eq_3,@oh,@lq,@lg,@cond_true.{1},@cond_false.{1},@List.set_cons_zero.{0},@List.set_cons_succ.{0},@List.set_nil.{0},@Nat.beq_refl,@oq,@lu⟩:_/\_/\_/\_/\_/\_/\_/\_/\_/\_/\_/\_/\_/\_/\_/\_/\_/\_/\_/\_/\_/\_/\_/\_/\_/\_):=⟨@yt,@Lf.kill.eq_1,@Lf.kill.eq_2,@Lf.kill.eq_3,@Lf.kill.eq_4,@List.map_cons.{0,0},@List.map_nil.{0,0},@AV.map.eq_1,@AV.map.eq_2,@AV.map.eq_3,@TV.map.eq_1,@TV.map.eq_2,@Ob.map.eq_1,@Ob.map.eq_2,@Ob.map.eq_3,@oh,@lq,@lg,@cond_true.{1},@cond_false.{1},@List.set_cons_zero.{0},@List.set_cons_succ.{0},@List.set_nil.{0},@Nat.beq_refl,@oq,@lu⟩
structure Hold (Q:Prop):Prop where
 out:Q
theorem ah {P Q:Prop} (q:Q) (h:Hold Q->P:=by intro h;(repeat (first | refine g1 ?_ | refine g2 ?_ | ((first | refine g3 ?_ | refine g4 ?_ | refine g5 ?_);try simp only [xq,simprocAttr]) | ((first | refine g6 ?_ | refine g7 ?_);simp only [xr,simprocAttr];repeat (guard_target =~ _/\_;refine ⟨by first | with_reducible assumption | (guard_target =~ (_:Int)<=_;omega) | (guard_target =~ (_:Int)<_;omega) | (guard_target =~ (_:Nat)<_;omega) | (guard_target =~ (_:Nat)<=_;omega) | (guard_target =~ (_:Int)=_;omega) | (unfold I64;omega) | trivial | omega | (simp<;>omega) | (intros;omega),?_⟩))));exact h.out):P:=h ⟨q⟩
theorem jC {P Q:Prop} (q:Q) (h:Hold Q->P:=by intro h;(repeat (first | refine g1 ?_ | refine g2 ?_ | ((first | refine g3 ?_ | refine g4 ?_);try simp only [xq,simprocAttr]) | ((first | refine g6 ?_ | refine g7 ?_);simp only [xr,simprocAttr];repeat (guard_target =~ _/\_;refine ⟨by first | with_reducible assumption | (guard_target =~ (_:Int)<=_;omega) | (guard_target =~ (_:Int)<_;omega) | (guard_target =~ (_:Nat)<_;omega) | (guard_target =~ (_:Nat)<=_;omega) | (guard_target =~ (_:Int)=_;omega) | (unfold I64;omega) | trivial | omega | (simp<;>omega) | (intros;omega),?_⟩))));exact h.out):P:=h ⟨q⟩
theorem amB {P Q:Prop} (q:Q) (h:Hold Q->P:=by intro h;((repeat (first | refine g1 ?_ | refine g2 ?_ | ((first | refine g3 ?_ | refine g4 ?_);try simp only [xq,simprocAttr]))));exact h.out):P:=h ⟨q⟩
theorem L9 {P Q:Prop} (q:Q) (h:Hold Q->P:=by intro h;((repeat (first | refine g1 ?_ | refine g2 ?_ | ((first | refine g3 ?_ | refine g4 ?_);try simp only [xq,simprocAttr])));((first | refine g6 ?_ | refine g7 ?_);simp only [xr,simprocAttr];repeat (guard_target =~ _/\_;refine ⟨by first | with_reducible assumption | (guard_target =~ (_:Int)<=_;omega) | (guard_target =~ (_:Int)<_;omega) | (guard_target =~ (_:Nat)<_;omega) | (guard_target =~ (_:Nat)<=_;omega) | (guard_target =~ (_:Int)=_;omega) | (unfold I64;omega) | trivial | omega | (simp<;>omega) | (intros;omega),?_⟩));(repeat (first | refine g1 ?_ | refine g2 ?_ | ((first | refine g3 ?_ | refine g4 ?_);try simp only [xq,simprocAttr]))));exact h.out):P:=h ⟨q⟩
theorem amC {P Q:Prop} (q:Q) (h:Hold Q->P:=by intro h;((try simp only [xr,simprocAttr]);repeat (guard_target =~ _/\_;refine ⟨by first | with_reducible assumption | (guard_target =~ (_:Int)<=_;omega) | (guard_target =~ (_:Int)<_;omega) | (guard_target =~ (_:Nat)<_;omega) | (guard_target =~ (_:Nat)<=_;omega) | (guard_target =~ (_:Int)=_;omega) | (unfold I64;omega) | trivial | omega | (simp<;>omega) | (intros;omega),?_⟩));exact h.out):P:=h ⟨q⟩
theorem amS {P Q:Prop} (q:Q) (h:Hold Q->P:=by intro h;(repeat (guard_target =~ _/\_;refine ⟨by first | with_reducible assumption | (guard_target =~ (_:Int)<=_;omega) | (guard_target =~ (_:Int)<_;omega) | (guard_target =~ (_:Nat)<_;omega) | (guard_target =~ (_:Nat)<=_;omega) | (guard_target =~ (_:Int)=_;omega) | (unfold I64;omega) | trivial | omega | (simp<;>omega) | (intros;omega),?_⟩));exact h.out):P:=h ⟨q⟩
theorem xA {P Q:Prop} (q:Q) (h:Hold Q->P:=by intro h;(repeat (guard_target =~ _/\_;refine ⟨by first | (guard_target =~ _=_;rfl) | (guard_target =~ (_:Int)<=_;omega) | (first | with_reducible assumption | (guard_target =~ (_:Int)<=_;omega) | (guard_target =~ (_:Int)<_;omega) | (guard_target =~ (_:Nat)<_;omega) | (guard_target =~ (_:Nat)<=_;omega) | (guard_target =~ (_:Int)=_;omega) | (unfold I64;omega) | trivial | omega | (simp<;>omega) | (intros;omega)),?_⟩));exact h.out):P:=h ⟨q⟩
theorem amM {P Q:Prop} (q:Q) (h:Hold Q->P:=by intro h;(simp (maxSteps:=3000000) only [xr,simprocAttr];repeat (guard_target =~ _/\_;refine ⟨by first | with_reducible assumption | (guard_target =~ (_:Int)<=_;omega) | (guard_target =~ (_:Int)<_;omega) | (guard_target =~ (_:Nat)<_;omega) | (guard_target =~ (_:Nat)<=_;omega) | (guard_target =~ (_:Int)=_;omega) | (unfold I64;omega) | trivial | omega | (simp<;>omega) | (intros;omega),?_⟩));exact h.out):P:=h ⟨q⟩
theorem amN {P Q:Prop} (q:Q) (h:Hold Q->P:=by intro h;(simp only [xr,simprocAttr];repeat (guard_target =~ _/\_;refine ⟨by first | with_reducible assumption | (guard_target =~ (_:Int)<=_;omega) | (guard_target =~ (_:Int)<_;omega) | (guard_target =~ (_:Nat)<_;omega) | (guard_target =~ (_:Nat)<=_;omega) | (guard_target =~ (_:Int)=_;omega) | (unfold I64;omega) | trivial | omega | (simp<;>omega) | (intros;omega),?_⟩));exact h.out):P:=h ⟨q⟩
theorem bJ {P Q:Prop} (q:Q) (h:Hold Q->P:=by intro h;(simp only [xe,simprocAttr];refine ⟨_,rfl,rfl,Imp.eq ?_⟩);exact h.out):P:=h ⟨q⟩
theorem amE {P:Prop} (h:P:=by first | rfl | (simp only [xr,simprocAttr];done) | (simp only [xr,simprocAttr];refine kM ?_;first | with_reducible assumption | (guard_target =~ (_:Int)<=_;omega) | (guard_target =~ (_:Int)<_;omega) | (guard_target =~ (_:Nat)<_;omega) | (guard_target =~ (_:Nat)<=_;omega) | (guard_target =~ (_:Int)=_;omega) | (unfold I64;omega) | trivial | omega | (simp<;>omega) | (intros;omega))):P:=h
theorem amK {P:Prop} (h:P:=by simp only [xr,simprocAttr]<;>(and_intros<;>first | with_reducible assumption | (guard_target =~ (_:Int)<=_;omega) | (guard_target =~ (_:Int)<_;omega) | (guard_target =~ (_:Nat)<_;omega) | (guard_target =~ (_:Nat)<=_;omega) | (guard_target =~ (_:Int)=_;omega) | (unfold I64;omega) | trivial | omega | (simp<;>omega) | (intros;omega))):P:=h
theorem amT {P:Prop} (h:P:=by first | (show _<List.length _;omega) | first | with_reducible assumption | (guard_target =~ (_:Int)<=_;omega) | (guard_target =~ (_:Int)<_;omega) | (guard_target =~ (_:Nat)<_;omega) | (guard_target =~ (_:Nat)<=_;omega) | (guard_target =~ (_:Int)=_;omega) | (unfold I64;omega) | trivial | omega | (simp<;>omega) | (intros;omega)):P:=h
theorem amQ {P:Prop} (h:P:=by first | rfl | (simp only [xr,simprocAttr];rfl)):P:=h
theorem AU {P Q:Prop} (q:Q) (h:Hold Q->P:=by intro h;(simp only [xec,simprocAttr];refine ⟨[_,_],⟨⟨amK,rfl⟩,rfl,trivial⟩,rfl,Imp.eq ?_⟩);exact h.out):P:=h ⟨q⟩
theorem bW {P:Prop} (h:P:=by (try simp only [xk]);(repeat (refine jI ?_ ?_;first | (exact amE) | rotate_left));(try exact mF rfl);(all_goals (try (simp only [xr,simprocAttr];try refine kM ?_)))):P:=h
theorem dJ {P:Prop} (h:P:=by (try simp only [xk]);(repeat (refine jI ?_ ?_;first | (exact amE) | rotate_left));(refine mF ?_;exact (by rfl));(all_goals (try (simp only [xr,simprocAttr];try refine kM ?_)))):P:=h
theorem dw {B:List (Nat×Bool×AV)} {H':List Ob} {X:St} (e:H'=X.H) (h:leK B X.H X:=by (try simp only [xk]);(repeat (refine jI ?_ ?_;first | (exact amE) | rotate_left));(refine mF ?_;exact rfl);(all_goals (try (simp only [xr,simprocAttr];try refine kM ?_)))):leK B H' X:=by rw [e];exact h
theorem amF {P Q:Prop} (h:Q:=by and_intros<;>first | rfl | (simp;done)):P\/Q := .inr h
end Go.Proofs.YtnblieajjclipaaGreat
