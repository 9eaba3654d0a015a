/- The code's reader: lists and records (printed by wip/gen_rdloop.py). -/
import Derived.Test.YtaamihdibpioaaaGreatJpM13
import Derived.Test.YtaamihdibpioaaaGreatJpM17
import Derived.Test.YtaamihdibpioaaaGreatJpM28
import Derived.Deep.RegionLaw
set_option maxRecDepth 100000
set_option maxHeartbeats 40000000
namespace Go.Proofs.YtaamihdibpioaaaGreat
open Go.RowKit
theorem one_str (t : ByteArray) : ∀ u ∈ [Value.string t], u.oneCell' = true := fun u hu => by
 obtain rfl : u = .string t := by simpa using hu
 rfl
theorem reads_one (w : World) (v : Value) (t : TypeId) : Reads (w.alloc (.cells #[v] t)) (w.heap.size + 1) 1 (some ⟨w.heap.size, 0, none⟩) 1 [v] :=
 ⟨rfl,fun _ => ⟨_,rfl,by simp,cells_new w [v] t⟩⟩
theorem reads_row (w : World) (l : List Value) (t : TypeId) : Reads (w.alloc (.cells l.toArray t)) (w.heap.size + 1) l.length (some ⟨w.heap.size, 0, none⟩) 1 l :=
 ⟨by simp,fun _ => ⟨_,rfl,by simp,cells_new w l t⟩⟩
theorem own_form {w : World} {base n size : Nat} {e : TypeId} {v : Value} {xs : List Value} (h : w.ownsRow base e size v n xs) : ∃ a c, v = .slice a n c := by
 rcases h.2 with ⟨rfl,rfl⟩ | ⟨g,cap,cur,rfl,_⟩
 ·exact ⟨none, 0,rfl⟩
 ·exact ⟨_,_,rfl⟩
section
variable {A : Type} {E : Elem A} {TE : TypeId} {B : Nat} {w w' : World} {ns : List ByteArray} {us : List A} {sv xv : Value}
theorem Gath.alloc (h : Gath E TE B w ns us sv xv) (o : Obj) : Gath E TE B (w.alloc o) ns us sv xv := h.below ((Below.refl _ w).alloc (Nat.le_refl _) o)
theorem Gath.nge (h : Gath E TE B w ns us sv xv) {k : Nat} (hk : sv.ownBlock = some k) : B <= k := (h.names.lt k hk).1
theorem Gath.xge (h : Gath E TE B w ns us sv xv) {k : Nat} (hk : xv.ownBlock = some k) : B <= k := (h.items.lt k hk).1
theorem Gath.nlt (h : Gath E TE B w ns us sv xv) {k : Nat} (hk : sv.ownBlock = some k) : k < w.heap.size := (h.names.lt k hk).2
theorem Gath.xlt (h : Gath E TE B w ns us sv xv) {k : Nat} (hk : xv.ownBlock = some k) : k < w.heap.size := (h.items.lt k hk).2
end
theorem only_app2 {w a b : World} {r : Nat} {row : Option Nat} (h : Only w a r) (hg : a.grownBy b row) (hr : ∀ k, row = some k -> w.heap.size <= k) : Only w b r :=
 ⟨hg.os.trans h.os,hg.tape.trans h.tape,hg.output.trans h.output,Nat.le_trans h.size hg.size,fun i hi hne => (hg.block i (Nat.lt_of_lt_of_le hi h.size) (fun e => by have := hr i e.symm; omega)).trans (h.block i hi hne)⟩
theorem RS.grow {TE : TypeId} {w w6 w8 : World} {g V : Nat} {s : ByteArray} {q : Nat} {m : Int} {cs : List Value} {o : Obj} {row : Option Nat} (h : RS TE w w6 g V s q m cs) (hg : (w6.alloc o).grownBy w8 row) (hr : ∀ k, row = some k -> V + 1 <= k) : RS TE w w8 g V s q m cs :=
 ⟨(h.rd.alloc o).grown hg (fun e => by have := hr g e.symm; have := h.lt; omega), (h.blk.alloc o).grown hg (fun e => by have := hr V e.symm; omega),only_app2 (h.only.alloc o) hg (fun k hk => by have := hr k hk; rw [<- h.eq]; omega),h.lt,h.eq⟩
theorem node_end {k : Int} {w wr : World} {g V M q : Nat} {s : ByteArray} {cs : List Value} {ns : List ByteArray} {us : List Val} {an ax : Option Addr} {cn cx : Nat} (h : RS 37 w wr g V s q (M : Int) cs) (hg : Gath valE 37 (V + 1) wr ns us (.slice an ns.length cn) (.slice ax us.length cx))
  {r : Except Int (Val × Nat × Nat)} (hr : r = .ok (Val.node k ns (us.map Val.erase),q,M)) (hk : i64r k) (hn : ns.length <= 200) (hx : us.length <= 200) (ht : ∀ t,t ∈ ns -> t.size <= 30) :
  ValRead r s g w (.returned (.agg #[.int .i64 k, .int .i64 0, .float .f64 0, .string ⟨#[]⟩, .slice an ns.length cn, .slice ax us.length cx])) wr := by
 refine ⟨h.only,?_⟩; rw [hr]; obtain ⟨sn,hsn,hln,hspn⟩ := lies_of_own hg.names; obtain ⟨sx,hsx,hlx,hspx⟩ := rowLies_of_own hg.items; have hV := h.eq; refine ⟨.mk k 0 0 ⟨#[]⟩ sn ns sx us,?_,?_,?_,?_,h.rd⟩
 ·show _ = Ending.returned (.agg #[.int .i64 k, .int .i64 0, .float .f64 0, .string ⟨#[]⟩, sn.val ns.length, sx.val us.length])
  rw [<- hsn, <- hsx]
 ·rw [Val.erase_eq]
  rfl
 ·rw [Val.in_iff]
  refine ⟨⟨hk,by unfold i64r; simp [Val.n],by simp [Val.f],by unfold strok; simp [Val.s]; decide,?_,?_,fun s hs => ?_⟩,hln,hlx,fun x hx' => (hg.each x hx').1⟩
  ·show ns.length <= _; omega
  ·show us.length <= _; omega
  ·have := ht s hs; unfold strok; omega
 ·rw [Val.sep_iff]
  exact ⟨hspn.mono (fun b hb => by omega),hspx.mono (fun b hb => by omega),fun x hx' => (hg.each x hx').2.mono (fun b hb => by have := hb.1; omega)⟩
theorem rv_list (s : ByteArray) (hs : s.size <= 100000) (d p m deep g : Nat) (w : World) (hd : deep + d = 12) (hp : p <= s.size) (hm : m <= 200) (hm1 : m + 1 <= 200) (hin : p < s.size) (hk : (byteAt s p).toNat = 5) (ih : ∀ (p m g : Nat) (w : World), p <= s.size -> m <= 200 -> At w g s p (m : Int) -> Calls Tryz.prog 153 #[.pointer (some ⟨g, 0, none⟩), .int .i64 ((deep : Int) + 1)] w fun e w' => ValRead (rdV s d p m) s g w e w') (h : At w g s p (m : Int)) :
  Calls Tryz.prog 153 #[.pointer (some ⟨g, 0,none⟩), .int .i64 deep] w fun e w' => ValRead (rdV s (d + 1) p m) s g w e w' := by
 have hkt : (decide ((byteAt s p).toNat = 6)) = false := by rw [hk]; rfl
 have hdw : IntKind.i64.wrap ((deep : Int) + 1) = (deep : Int) + 1 := IntWalk.i64_in _ (by omega)
 obtain ⟨i0,hi0,hz0,hz1,hz2⟩ := info_parts val_facts; obtain ⟨i1,hi1,hy0,hy1,hy2⟩ := info_parts str_facts; have HIH := gh ih; clear ih; have hsf := run_store_flt; obtain ⟨V,hV⟩ := gXe (w.heap.size); obtain ⟨W,hW⟩ := gXe (w.alloc (.cells #[.int .i64 0, .int .i64 0, .float .f64 0, .string ⟨#[]⟩, .slice none 0 0, .slice none 0 0] 37)); have hst : RS 37 w W g V s p (m : Int) [.int .i64 0, .int .i64 0, .float .f64 0, .string ⟨#[]⟩, .slice none 0 0, .slice none 0 0] := by rw [hV,hW]; exact RS.start w g s p m _ h
 have HV := gh hV; have HW := gh hW; have HS0 := gh hst; clear hV hW hst h; have HBEG := gh (rbegin_ok s p m deep g W (by omega) hm1 HS0.o.rd)
 cases hmm : readM s (p + 1) with
 | error k =>
  have HE : Hid (rdV s (d + 1) p m = .error k) := gh (by unfold rdV; rw [if_neg (by omega),if_neg (by omega),if_neg (by rw [hk]; decide),if_neg (by rw [hk]; decide),if_neg (by rw [hk]; decide),if_neg (by rw [hk]; decide),if_pos (by rw [hk]; decide),hmm])
  go_enter Tryz.func153,Tryz.ntmps153
  go_wp2_with fail
  rw [<- HW.o, <- HV.o]; refine HBEG.o.mono ?_; rintro e w1 ⟨rfl,ha1,ho1⟩; have HS1 := gh (HS0.o.read ha1 ho1); clear ha1 ho1 HBEG HW; have HB1 := gh (byte_k s p ((m + 1 : Nat) : Int) g 5 w1 hs hin HS1.o.rd hk)
  go_wp2_with fail
  refine HB1.o.mono ?_; rintro e w2 ⟨rfl,ha2,ho2⟩; have HS2 := gh (HS1.o.read ha2 ho2); clear ha2 ho2 HB1 HS1; have c0 := HS2.o.cell 0; have f0 := HS2.o.frozen 0; have hvl := HS2.o.vlt; simp only [gX1,gX2] at c0; obtain ⟨W2,hW2⟩ := gXe (w2.setCell ⟨V, 0,none⟩ (.int .i64 5)); have hs3 : RS 37 w W2 g V s (p + 1) ((m + 1 : Nat) : Int) [.int .i64 5, .int .i64 0, .float .f64 0, .string ⟨#[]⟩, .slice none 0 0, .slice none 0 0] := by rw [hW2]; exact HS2.o.set_ 0 _
  have HS3 := gh hs3; have HW2 := gh hW2; clear hs3 hW2
  go_upto_region 3 with fail
  rw [<- HW2.o]; clear c0 f0 hvl HS2; have c0 := HS3.o.cell 0; have hvl := HS3.o.vlt; simp only [gX1,gX2] at c0; have HR := gh (rmany_any s (p + 1) ((m + 1 : Nat) : Int) g W2 hs (by omega) HS3.o.rd)
  rw [hmm] at HR
  go_wp2_with fail
  refine HR.o.mono ?_; rintro e w3 ⟨rfl,ho3⟩; have ho := HS3.o.only.trans ho3; unfold gives
  go_wp2
  refine ⟨rfl,?_⟩; refine ⟨ho,?_⟩; rw [HE.o]
  rfl
 | ok nq =>
  obtain ⟨n,q0⟩ := nq; obtain ⟨hq0,hq0s,hn200⟩ := readM_lt hmm
  have hed : rdV s (d + 1) p m = (match rdL s (rdV s d) false n q0 (m + 1) with
    | .error k => .error k
    | .ok (ns,vs,q2,m2) => .ok (Val.node 5 ns vs,q2,m2)) := by
   unfold rdV; rw [if_neg (by omega),if_neg (by omega),if_neg (by rw [hk]; decide),if_neg (by rw [hk]; decide),if_neg (by rw [hk]; decide),if_neg (by rw [hk]; decide),if_pos (by rw [hk]; decide),hmm]
   simp only [hkt]; rw [hk]
   rfl
  have HED := gh hed; have HMM := gh hmm; clear hed hkt hmm
  go_enter Tryz.func153,Tryz.ntmps153
  go_wp2_with fail
  rw [<- HW.o, <- HV.o]; refine HBEG.o.mono ?_; rintro e w1 ⟨rfl,ha1,ho1⟩; have HS1 := gh (HS0.o.read ha1 ho1); clear ha1 ho1 HBEG HW; have HB1 := gh (byte_k s p ((m + 1 : Nat) : Int) g 5 w1 hs hin HS1.o.rd hk)
  go_wp2_with fail
  refine HB1.o.mono ?_; rintro e w2 ⟨rfl,ha2,ho2⟩; have HS2 := gh (HS1.o.read ha2 ho2); clear ha2 ho2 HB1 HS1; have c0 := HS2.o.cell 0; have f0 := HS2.o.frozen 0; have hvl := HS2.o.vlt; simp only [gX1,gX2] at c0; obtain ⟨W2,hW2⟩ := gXe (w2.setCell ⟨V, 0,none⟩ (.int .i64 5)); have hs3 : RS 37 w W2 g V s (p + 1) ((m + 1 : Nat) : Int) [.int .i64 5, .int .i64 0, .float .f64 0, .string ⟨#[]⟩, .slice none 0 0, .slice none 0 0] := by rw [hW2]; exact HS2.o.set_ 0 _
  have HS3 := gh hs3; have HW2 := gh hW2; clear hs3 hW2
  go_upto_region 3 with fail
  rw [<- HW2.o]; clear c0 f0 hvl HS2; have c0 := HS3.o.cell 0; have hvl := HS3.o.vlt; simp only [gX1,gX2] at c0; have HR := gh (rmany_any s (p + 1) ((m + 1 : Nat) : Int) g W2 hs (by omega) HS3.o.rd)
  rw [HMM.o] at HR
  go_wp2_with fail
  refine HR.o.mono ?_; rintro e w3 ⟨rfl,ha3,ho3⟩; have HS4 := gh (HS3.o.read ha3 ho3); clear ha3 ho3 HR HS3 c0 hvl
  go_wp2_with fail
  go_loopw [45] (fun iv wr => ∃ (i : Nat) (ns : List ByteArray) (us : List Val) (an ax : Option Addr) (cn cx q m' : Nat), iv = .int .i64 i /\ i <= n /\ q <= s.size /\ m' <= 200 /\ us.length <= n /\ Hid (us.length = i) /\ ns.length <= i /\ Hid (Come s (rdV s d) false n q0 (m + 1) ns (us.map Val.erase) i q m') /\
   Hid (RS 37 w wr g V s q (m' : Int) [.int .i64 5, .int .i64 0, .float .f64 0, .string ⟨#[]⟩, .slice an ns.length cn, .slice ax us.length cx]) /\ Hid (Gath valE 37 (V + 1) wr ns us (.slice an ns.length cn) (.slice ax us.length cx))) (fun iv _ => n - (intOf iv).toNat)
  case atStart => exact ⟨0, [], [],none,none, 0, 0,q0,m + 1,rfl,by omega,hq0s,hm1,by simp,gh rfl,by simp,gh come_start,HS4,gh (gath_start _)⟩
  case round =>
   obtain ⟨i,ns,us,an,ax,cn,cx,q,m',rfl,hi,hqs,hm',hul,HUL,hnl,HCM,HRS,HG⟩ := hrel; clear HS4; have c0 := HRS.o.cell 0; have cn0 := HRS.o.cell 4; have cx0 := HRS.o.cell 5; have hvl := HRS.o.vlt; simp only [gX1,gX2] at c0 cn0 cx0
   by_cases hlt : i < n
   ·have j1 : decide ((i : Int) < (n : Int)) = true := by simp; omega
    cases hr : rdV s d q m' with
    | error k =>
     have HC := gh (fun (W : World) (h : At W g s q (m' : Int)) => HIH.o q m' g W (by omega) hm' h)
     rw [hr] at HC; have HE : Hid (rdV s (d + 1) p m = .error k) := gh (by rw [HED.o, (HCM.o.item_bad0 hlt hr)])
     clear hr
     go_wp2_with fail
     refine wp_region_held_drew (S := (fun W => W.cell? ⟨V, 5,none⟩ = some (Value.slice ax us.length cx))) (by kernel_rfl) cx0 (fun hHeld => ?_)
     refine gT (i := 0) (d := some 57) (v := ?_) rfl rfl (by kernel_rfl) (fun _ _ _ h => h) (by rfl) ?_ hHeld ?_
     rotate_left
     ·(intro w yS; (try dsimp only at yS); go_simp; try with_reducible rfl)
     try simp only [Act.put,gX3,gX4,gX5]
     refine gT (i := 1) (d := some 58) (v := ?_) rfl rfl (by kernel_rfl) (fun _ _ _ h => h) (by rfl) ?_ hHeld ?_
     rotate_left
     ·(intro w yS; (try dsimp only at yS); go_simp; try with_reducible rfl)
     try simp only [Act.put,gX3,gX4,gX5]
     refine gT (i := 2) (d := some 59) (v := ?_) rfl rfl (by kernel_rfl) (fun _ _ _ h => h) (by rfl) ?_ hHeld ?_
     rotate_left
     ·(intro w yS; (try dsimp only at yS); go_simp; try with_reducible rfl)
     try simp only [Act.put,gX3,gX4,gX5]
     refine gT (i := 3) (d := some 60) (v := ?_) rfl rfl (by kernel_rfl) (fun _ _ _ h => h) (by rfl) ?_ hHeld ?_
     rotate_left
     ·(intro w yS; (try dsimp only at yS); go_simp; try with_reducible rfl)
     try simp only [Act.put,gX3,gX4,gX5]
     refine gT (i := 4) (d := some 61) (v := ?_) rfl rfl (by kernel_rfl) (fun _ _ _ h => h) (by rfl) ?_ hHeld ?_
     rotate_left
     ·(intro w yS; (try dsimp only at yS); go_simp; try with_reducible rfl)
     try simp only [Act.put,gX3,gX4,gX5]
     refine held_only (i := 5) (by kernel_rfl) rfl (by rfl) (fun K hK => ?_)
     go_simp
     go_at_call 153
     refine (HC.o _ (HRS.o.rd.drew)).mono ?_; rintro e w6 ⟨ho6,rfl⟩; have ho := (HRS.o.only.drew).trans ho6; unfold gives
     go_wp2
     refine ⟨rfl,ho,?_⟩; rw [HE.o]
     rfl
    | ok x =>
     obtain ⟨v,q2,m2⟩ := x; have hlts := rdV_lt s d q m' v q2 m2 (by omega) hm' hr
     have HC := gh (fun (W : World) (h : At W g s q (m' : Int)) => HIH.o q m' g W (by omega) hm' h)
     rw [hr] at HC; have HCM2 := gh (HCM.o.next0 hlt hr); have HZS := gh (fun b (hb : (Value.slice an ns.length cn).ownBlock = some b) => HG.o.nlt hb)
     have HZX := gh (fun b (hb : (Value.slice ax us.length cx).ownBlock = some b) => HG.o.xlt hb)
     clear hr
     go_wp2_with fail
     have hvB : V + 1 <= wr.heap.size := HRS.o.vlt
     go_region_law (first
      | (refine step_append_any (w := w6.alloc (.cells #[.int .i64 u.k, .int .i64 u.n, .float .f64 u.f, .string u.s, .slice a4 u.ns.length b4, .slice a5 u.xs.length b5] 37)) rfl (.tmp 58) (.tmp 63) 35 rfl (V + 1) 37 i0 (.agg #[.int .i64 0, .int .i64 0, .float .f64 0, .string ByteArray.empty, .slice none 0 0, .slice none 0 0]) 6 88 Tryz.underlying35 hi0 hz0 hz1 hz2 rfl (by decide) (.slice ax us.length cx) us.length (valE.row us) rfl HOWN6.o (w6.heap.size + 1) (some ⟨w6.heap.size, 0, none⟩) 1 1 u.cells rfl HRED.o (valE.one u) (by unfold maxLen; omega) (by omega) (by simp; omega) ?_;
         intro v' w8 hown' hgrow hor;
         have hg8 := Gath.item (HG6.o.alloc (.cells #[.int .i64 u.k, .int .i64 u.n, .float .f64 u.f, .string u.s, .slice a4 u.ns.length b4, .slice a5 u.xs.length b5] 37)) (by simp; omega) (HUI.o.below ((Below.refl _ w6).alloc (Nat.le_refl _) (.cells #[.int .i64 u.k, .int .i64 u.n, .float .f64 u.f, .string u.s, .slice a4 u.ns.length b4, .slice a5 u.xs.length b5] 37))) HUS.o hvB HZS.o HZX.o hown' hgrow hor;
         have hr8 := HR6.o.grow hgrow (fun k hk => HG6.o.xge hk);
         obtain ⟨ax',cx',rfl⟩ := own_form hown';
         have c8 := hr8.cell 5; have f8 := hr8.frozen 5; have v8 := hr8.vlt;
         simp only [gX1,gX2] at c8;
         have HG8 := gh hg8; have HR8 := gh hr8;
         clear hg8 hr8 hown' hgrow hor)
      | (go_simp; go_at_call 153; refine (HC.o _ (HRS.o.rd.drew)).mono ?_; rintro e w6 ⟨ho6, u, rfl, hue, hui, hus, ha6⟩;
         obtain ⟨a4,b4,k4⟩ := hui.nslice;
         obtain ⟨a5,b5,k5⟩ := hui.xslice;
         unfold Val.agg;
         rw [k4,k5];
         have ho6' := ((Only.refl wr g).drew).trans ho6;
         have hz6 := ho6'.size;
         have hr6 := HRS.o.read ha6 ho6';
         have hg6 := HG.o.only ho6' (by have := hr6.lt; omega);
         have c6 := hr6.cell 5; have v6 := hr6.vlt;
         simp only [gX1,gX2] at c6;
         have hred : Reads (w6.alloc (.cells #[.int .i64 u.k, .int .i64 u.n, .float .f64 u.f, .string u.s, .slice a4 u.ns.length b4, .slice a5 u.xs.length b5] 37)) (w6.heap.size + 1) 6 (some ⟨w6.heap.size, 0, none⟩) 1 u.cells := by
          unfold Val.cells; rw [k4,k5]; exact reads_row w6 _ 37;
         have hown6 := hg6.items.alloc (.cells #[.int .i64 u.k, .int .i64 u.n, .float .f64 u.f, .string u.s, .slice a4 u.ns.length b4, .slice a5 u.xs.length b5] 37);
         have HR6 := gh hr6; have HG6 := gh hg6; have HRED := gh hred; have HOWN6 := gh hown6; have HUI := gh hui; have HUS := gh hus; have HUE := gh hue;
         clear ha6 ho6 ho6' hr6 hg6 hred hown6 hui hus hue k4 k5))
     all_goals
      have HRS9 := gh (HR8.o.set_ 5 (.slice ax' (us.length + 1) cx')); have HG9 := gh (HG8.o.set_ (p := ⟨V, 5,none⟩) (by simp) (.slice ax' (us.length + 1) cx'))
      go_wp2
      go_roundw
      case rel => exact ⟨i + 1,ns,us ++ [u],an,ax',cn,cx',q2,m2,by go_num,by omega,by omega,by omega,by simp [HUL.o]; omega,gh (by simp [HUL.o]),by omega,gh (by rw [List.map_append,List.map_cons,List.map_nil,HUE.o]; exact HCM2.o),by simpa using HRS9,by simpa using HG9⟩
      case measure => simp [intOf]; omega
   ·have j1 : decide ((i : Int) < (n : Int)) = false := by simp; omega
    obtain rfl : i = n := by omega
    have hdone := HCM.o.done; have hfacts := rdL_lt (fun p m v q m' => rdV_lt s d p m v q m') i q0 (m + 1) ns (us.map Val.erase) q m' hq0s hm1 hdone
    have HE : Hid (rdV s (d + 1) p m = .ok (Val.node 5 ns (us.map Val.erase),q,m')) := gh (by rw [HED.o,hdone])
    have HTN := gh hfacts.2.2.2.2.2.2; clear hdone hfacts c0 cn0 cx0; have e0 := HRS.o.cell 0; have e1 := HRS.o.cell 1; have e2 := HRS.o.cell 2; have e3 := HRS.o.cell 3; have e4 := HRS.o.cell 4; have e5 := HRS.o.cell 5; have f0 := HRS.o.frozen 0; have f1 := HRS.o.frozen 1; have f2 := HRS.o.frozen 2; have f3 := HRS.o.frozen 3; have f4 := HRS.o.frozen 4; have f5 := HRS.o.frozen 5; simp only [gX1,gX2] at e0 e1 e2 e3 e4 e5; obtain ⟨WF,hWF⟩ := gXe (((((((wr.setCell ⟨V, 0,none⟩ (.int .i64 5)).setCell ⟨V, 1,none⟩ (.int .i64 0)).setCell ⟨V, 2,none⟩ (.float .f64 0)).setCell ⟨V, 3,none⟩ (.string ⟨#[]⟩)).setCell ⟨V, 4,none⟩ (.slice an ns.length cn)).setCell ⟨V, 5,none⟩ (.slice ax us.length cx))); have HSF : Hid (RS 37 w WF g V s _ _ [.int .i64 5, .int .i64 0, .float .f64 0, .string ⟨#[]⟩, .slice an ns.length cn, .slice ax us.length cx]) := gh (by rw [hWF]; exact HRS.o.six _ _ _ _ _ _)
    have HWF := gh hWF; clear hWF
    go_wp2_with fail
    rw [<- HWF.o]; clear e0 e1 e2 e3 e4 e5 f0 f1 f2 f3 f4 f5; have e0 := HSF.o.cell 0; have e1 := HSF.o.cell 1; have e2 := HSF.o.cell 2; have e3 := HSF.o.cell 3; have e4 := HSF.o.cell 4; have e5 := HSF.o.cell 5; simp only [gX1,gX2] at e0 e1 e2 e3 e4 e5; refine bodyPost_ret (v := .agg #[.int .i64 5, .int .i64 0, .float .f64 0, .string ⟨#[]⟩, .slice an ns.length cn, .slice ax us.length cx]) (by simp [results,Tryz.results153,go_sem,e0,e1,e2,e3,e4,e5]) rfl ?_
    exact node_end HSF.o (by rw [HWF.o]; exact HG.o.only (stored6' HRS.o.blk _ _ _ _ _ _).2 (by omega)) HE.o (by unfold i64r; omega) (by omega) (by omega) HTN.o
theorem rv_rec (s : ByteArray) (hs : s.size <= 100000) (d p m deep g : Nat) (w : World) (hd : deep + d = 12) (hp : p <= s.size) (hm : m <= 200) (hm1 : m + 1 <= 200) (hin : p < s.size) (hk : (byteAt s p).toNat = 6) (ih : ∀ (p m g : Nat) (w : World), p <= s.size -> m <= 200 -> At w g s p (m : Int) -> Calls Tryz.prog 153 #[.pointer (some ⟨g, 0, none⟩), .int .i64 ((deep : Int) + 1)] w fun e w' => ValRead (rdV s d p m) s g w e w') (h : At w g s p (m : Int)) :
  Calls Tryz.prog 153 #[.pointer (some ⟨g, 0,none⟩), .int .i64 deep] w fun e w' => ValRead (rdV s (d + 1) p m) s g w e w' := by
 have hkt : (decide ((byteAt s p).toNat = 6)) = true := by rw [hk]; rfl
 have hdw : IntKind.i64.wrap ((deep : Int) + 1) = (deep : Int) + 1 := IntWalk.i64_in _ (by omega)
 obtain ⟨i0,hi0,hz0,hz1,hz2⟩ := info_parts val_facts; obtain ⟨i1,hi1,hy0,hy1,hy2⟩ := info_parts str_facts; have HIH := gh ih; clear ih; have hsf := run_store_flt; obtain ⟨V,hV⟩ := gXe (w.heap.size); obtain ⟨W,hW⟩ := gXe (w.alloc (.cells #[.int .i64 0, .int .i64 0, .float .f64 0, .string ⟨#[]⟩, .slice none 0 0, .slice none 0 0] 37)); have hst : RS 37 w W g V s p (m : Int) [.int .i64 0, .int .i64 0, .float .f64 0, .string ⟨#[]⟩, .slice none 0 0, .slice none 0 0] := by rw [hV,hW]; exact RS.start w g s p m _ h
 have HV := gh hV; have HW := gh hW; have HS0 := gh hst; clear hV hW hst h; have HBEG := gh (rbegin_ok s p m deep g W (by omega) hm1 HS0.o.rd)
 cases hmm : readM s (p + 1) with
 | error k =>
  have HE : Hid (rdV s (d + 1) p m = .error k) := gh (by unfold rdV; rw [if_neg (by omega),if_neg (by omega),if_neg (by rw [hk]; decide),if_neg (by rw [hk]; decide),if_neg (by rw [hk]; decide),if_neg (by rw [hk]; decide),if_pos (by rw [hk]; decide),hmm])
  go_enter Tryz.func153,Tryz.ntmps153
  go_wp2_with fail
  rw [<- HW.o, <- HV.o]; refine HBEG.o.mono ?_; rintro e w1 ⟨rfl,ha1,ho1⟩; have HS1 := gh (HS0.o.read ha1 ho1); clear ha1 ho1 HBEG HW; have HB1 := gh (byte_k s p ((m + 1 : Nat) : Int) g 6 w1 hs hin HS1.o.rd hk)
  go_wp2_with fail
  refine HB1.o.mono ?_; rintro e w2 ⟨rfl,ha2,ho2⟩; have HS2 := gh (HS1.o.read ha2 ho2); clear ha2 ho2 HB1 HS1; have c0 := HS2.o.cell 0; have f0 := HS2.o.frozen 0; have hvl := HS2.o.vlt; simp only [gX1,gX2] at c0; obtain ⟨W2,hW2⟩ := gXe (w2.setCell ⟨V, 0,none⟩ (.int .i64 6)); have hs3 : RS 37 w W2 g V s (p + 1) ((m + 1 : Nat) : Int) [.int .i64 6, .int .i64 0, .float .f64 0, .string ⟨#[]⟩, .slice none 0 0, .slice none 0 0] := by rw [hW2]; exact HS2.o.set_ 0 _
  have HS3 := gh hs3; have HW2 := gh hW2; clear hs3 hW2
  go_upto_region 3 with fail
  rw [<- HW2.o]; clear c0 f0 hvl HS2; have c0 := HS3.o.cell 0; have hvl := HS3.o.vlt; simp only [gX1,gX2] at c0; have HR := gh (rmany_any s (p + 1) ((m + 1 : Nat) : Int) g W2 hs (by omega) HS3.o.rd)
  rw [hmm] at HR
  go_wp2_with fail
  refine HR.o.mono ?_; rintro e w3 ⟨rfl,ho3⟩; have ho := HS3.o.only.trans ho3; unfold gives
  go_wp2
  refine ⟨rfl,?_⟩; refine ⟨ho,?_⟩; rw [HE.o]
  rfl
 | ok nq =>
  obtain ⟨n,q0⟩ := nq; obtain ⟨hq0,hq0s,hn200⟩ := readM_lt hmm
  have hed : rdV s (d + 1) p m = (match rdL s (rdV s d) true n q0 (m + 1) with
    | .error k => .error k
    | .ok (ns,vs,q2,m2) => .ok (Val.node 6 ns vs,q2,m2)) := by
   unfold rdV; rw [if_neg (by omega),if_neg (by omega),if_neg (by rw [hk]; decide),if_neg (by rw [hk]; decide),if_neg (by rw [hk]; decide),if_neg (by rw [hk]; decide),if_pos (by rw [hk]; decide),hmm]
   simp only [hkt]; rw [hk]
   rfl
  have HED := gh hed; have HMM := gh hmm; clear hed hkt hmm
  go_enter Tryz.func153,Tryz.ntmps153
  go_wp2_with fail
  rw [<- HW.o, <- HV.o]; refine HBEG.o.mono ?_; rintro e w1 ⟨rfl,ha1,ho1⟩; have HS1 := gh (HS0.o.read ha1 ho1); clear ha1 ho1 HBEG HW; have HB1 := gh (byte_k s p ((m + 1 : Nat) : Int) g 6 w1 hs hin HS1.o.rd hk)
  go_wp2_with fail
  refine HB1.o.mono ?_; rintro e w2 ⟨rfl,ha2,ho2⟩; have HS2 := gh (HS1.o.read ha2 ho2); clear ha2 ho2 HB1 HS1; have c0 := HS2.o.cell 0; have f0 := HS2.o.frozen 0; have hvl := HS2.o.vlt; simp only [gX1,gX2] at c0; obtain ⟨W2,hW2⟩ := gXe (w2.setCell ⟨V, 0,none⟩ (.int .i64 6)); have hs3 : RS 37 w W2 g V s (p + 1) ((m + 1 : Nat) : Int) [.int .i64 6, .int .i64 0, .float .f64 0, .string ⟨#[]⟩, .slice none 0 0, .slice none 0 0] := by rw [hW2]; exact HS2.o.set_ 0 _
  have HS3 := gh hs3; have HW2 := gh hW2; clear hs3 hW2
  go_upto_region 3 with fail
  rw [<- HW2.o]; clear c0 f0 hvl HS2; have c0 := HS3.o.cell 0; have hvl := HS3.o.vlt; simp only [gX1,gX2] at c0; have HR := gh (rmany_any s (p + 1) ((m + 1 : Nat) : Int) g W2 hs (by omega) HS3.o.rd)
  rw [HMM.o] at HR
  go_wp2_with fail
  refine HR.o.mono ?_; rintro e w3 ⟨rfl,ha3,ho3⟩; have HS4 := gh (HS3.o.read ha3 ho3); clear ha3 ho3 HR HS3 c0 hvl
  go_wp2_with fail
  go_loopw [45] (fun iv wr => ∃ (i : Nat) (ns : List ByteArray) (us : List Val) (an ax : Option Addr) (cn cx q m' : Nat), iv = .int .i64 i /\ i <= n /\ q <= s.size /\ m' <= 200 /\ us.length <= n /\ Hid (us.length = i) /\ ns.length <= i /\ Hid (Come s (rdV s d) true n q0 (m + 1) ns (us.map Val.erase) i q m') /\
   Hid (RS 37 w wr g V s q (m' : Int) [.int .i64 6, .int .i64 0, .float .f64 0, .string ⟨#[]⟩, .slice an ns.length cn, .slice ax us.length cx]) /\ Hid (Gath valE 37 (V + 1) wr ns us (.slice an ns.length cn) (.slice ax us.length cx))) (fun iv _ => n - (intOf iv).toNat)
  case atStart => exact ⟨0, [], [],none,none, 0, 0,q0,m + 1,rfl,by omega,hq0s,hm1,by simp,gh rfl,by simp,gh come_start,HS4,gh (gath_start _)⟩
  case round =>
   obtain ⟨i,ns,us,an,ax,cn,cx,q,m',rfl,hi,hqs,hm',hul,HUL,hnl,HCM,HRS,HG⟩ := hrel; clear HS4; have c0 := HRS.o.cell 0; have cn0 := HRS.o.cell 4; have cx0 := HRS.o.cell 5; have hvl := HRS.o.vlt; simp only [gX1,gX2] at c0 cn0 cx0
   by_cases hlt : i < n
   ·have j1 : decide ((i : Int) < (n : Int)) = true := by simp; omega
    have i6 : ((6 : Int) == 6) = true := rfl
    cases ht : readS s q 30 with
    | error k =>
     have HC := gh (fun (W : World) (h : At W g s q (m' : Int)) => rstr_any s q (m' : Int) 30 g W hs hqs (by omega) (by omega) h)
     rw [ht] at HC; have HE : Hid (rdV s (d + 1) p m = .error k) := gh (by rw [HED.o,HCM.o.name_bad hlt ht])
     clear ht
     go_wp2_with fail
     refine wp_region_held_drew (S := (fun W => W.cell? ⟨V, 4,none⟩ = some (Value.slice an ns.length cn))) (by kernel_rfl) cn0 (fun hHeld => ?_)
     refine gT (i := 0) (d := some 50) (v := ?_) rfl rfl (by kernel_rfl) (fun _ _ _ h => h) (by rfl) ?_ hHeld ?_
     rotate_left
     ·(intro w yS; (try dsimp only at yS); go_simp; try with_reducible rfl)
     try simp only [Act.put,gX3,gX4,gX5]
     refine gT (i := 1) (d := some 51) (v := ?_) rfl rfl (by kernel_rfl) (fun _ _ _ h => h) (by rfl) ?_ hHeld ?_
     rotate_left
     ·(intro w yS; (try dsimp only at yS); go_simp; try with_reducible rfl)
     try simp only [Act.put,gX3,gX4,gX5]
     refine gT (i := 2) (d := some 52) (v := ?_) rfl rfl (by kernel_rfl) (fun _ _ _ h => h) (by rfl) ?_ hHeld ?_
     rotate_left
     ·(intro w yS; (try dsimp only at yS); go_simp; try with_reducible rfl)
     try simp only [Act.put,gX3,gX4,gX5]
     refine held_only (i := 3) (by kernel_rfl) rfl (by rfl) (fun K hK => ?_)
     go_simp
     go_at_call 178
     refine (HC.o _ (HRS.o.rd.drew)).mono ?_; rintro e w6 ⟨rfl,ho6⟩; have ho := (HRS.o.only.drew).trans ho6; unfold gives
     go_wp2
     refine ⟨rfl,ho,?_⟩; rw [HE.o]
     rfl
    | ok tq =>
     obtain ⟨t,q1⟩ := tq; obtain ⟨hqq,hq1s,htz⟩ := readS_lt ht; have HC := gh (fun (W : World) (h : At W g s q (m' : Int)) => rstr_any s q (m' : Int) 30 g W hs hqs (by omega) (by omega) h)
     rw [ht] at HC; have HT := gh ht; clear ht
     go_upto_region 19 with fail
     go_cut [45] (fun iv wx => iv = .int .i64 i /\ ∃ (ns2 : List ByteArray) (an2 : Option Addr) (cn2 : Nat),Hid (ns2 = ns ++ [t]) /\ Hid (RS 37 w wx g V s q1 (m' : Int) [.int .i64 6, .int .i64 0, .float .f64 0, .string ⟨#[]⟩, .slice an2 ns2.length cn2, .slice ax us.length cx]) /\ Hid (Gath valE 37 (V + 1) wx ns2 us (.slice an2 ns2.length cn2) (.slice ax us.length cx)))
     case first =>
      have hvB : V + 1 <= wr.heap.size := HRS.o.vlt
      go_region_law (first
       | (refine step_append_any (w := w6.alloc (.cells #[.string t] 9)) rfl (.tmp 51) (.tmp 54) 34 rfl (V + 1) 9 i1 (.string ByteArray.empty) 1 16 Tryz.underlying34 hi1 hy0 hy1 hy2 rfl (by decide) (.slice an ns.length cn) ns.length (ns.map Value.string) rfl HOWN6.o (w6.heap.size + 1) (some ⟨w6.heap.size, 0, none⟩) 1 1 [.string t] rfl HRED.o (one_str t) (by unfold maxLen; omega) (by omega) (by simp; omega) ?_;
          intro v' w8 hown' hgrow hor;
          have hg8 := Gath.name (HG6.o.alloc (.cells #[.string t] 9)) (by simp; omega) hown' hgrow hor;
          have hr8 := HR6.o.grow hgrow (fun k hk => HG6.o.nge hk);
          obtain ⟨an',cn',rfl⟩ := own_form hown';
          have c8 := hr8.cell 4; have f8 := hr8.frozen 4; have v8 := hr8.vlt;
          simp only [gX1,gX2] at c8;
          have HG8 := gh hg8; have HR8 := gh hr8;
          clear hg8 hr8 hown' hgrow hor)
       | (go_simp; go_at_call 178; refine (HC.o _ (HRS.o.rd.drew)).mono ?_; rintro e w6 ⟨rfl, ha6, ho6⟩;
          have ho6' := ((Only.refl wr g).drew).trans ho6;
          have hz6 := ho6'.size;
          have hr6 := HRS.o.read ha6 ho6';
          have hg6 := HG.o.only ho6' (by have := hr6.lt; omega);
          have c6 := hr6.cell 4; have v6 := hr6.vlt;
          simp only [gX1,gX2] at c6;
          have hred := reads_one w6 (.string t) 9;
          have hown6 := hg6.names.alloc (.cells #[.string t] 9);
          have HR6 := gh hr6; have HG6 := gh hg6; have HRED := gh hred; have HOWN6 := gh hown6;
          clear ha6 ho6 ho6' hr6 hg6 hred hown6))
      all_goals
       have HRS9 := gh (HR8.o.set_ 4 (.slice an' (ns.length + 1) cn')); have HG9 := gh (HG8.o.set_ (p := ⟨V, 4,none⟩) (by simp) (.slice an' (ns.length + 1) cn'))
       go_wp2
       go_meet
       exact ⟨rfl,ns ++ [t],an',cn',gh rfl,by simpa using HRS9,by simpa using HG9⟩
     case rest =>
     obtain ⟨rfl,ns2,an2,cn2,HN2,HRS2,HG2⟩ := hcut; have hn2 : ns2.length <= i + 1 := by rw [HN2.o]; simp; omega
     clear HRS HG c0 cn0 cx0 hvl HC; have HRS := HRS2; have HG := HG2; clear HRS2 HG2; have c0 := HRS.o.cell 0; have cn0 := HRS.o.cell 4; have cx0 := HRS.o.cell 5; have hvl := HRS.o.vlt; simp only [gX1,gX2] at c0 cn0 cx0
     cases hr : rdV s d q1 m' with
     | error k =>
      have HC := gh (fun (W : World) (h : At W g s q1 (m' : Int)) => HIH.o q1 m' g W (by omega) hm' h)
      rw [hr] at HC; have HE : Hid (rdV s (d + 1) p m = .error k) := gh (by rw [HED.o, (HCM.o.item_bad1 hlt HT.o hr)])
      clear hr
      go_wp2_with fail
      refine wp_region_held_drew (S := (fun W => W.cell? ⟨V, 5,none⟩ = some (Value.slice ax us.length cx))) (by kernel_rfl) cx0 (fun hHeld => ?_)
      refine gT (i := 0) (d := some 57) (v := ?_) rfl rfl (by kernel_rfl) (fun _ _ _ h => h) (by rfl) ?_ hHeld ?_
      rotate_left
      ·(intro w yS; (try dsimp only at yS); go_simp; try with_reducible rfl)
      try simp only [Act.put,gX3,gX4,gX5]
      refine gT (i := 1) (d := some 58) (v := ?_) rfl rfl (by kernel_rfl) (fun _ _ _ h => h) (by rfl) ?_ hHeld ?_
      rotate_left
      ·(intro w yS; (try dsimp only at yS); go_simp; try with_reducible rfl)
      try simp only [Act.put,gX3,gX4,gX5]
      refine gT (i := 2) (d := some 59) (v := ?_) rfl rfl (by kernel_rfl) (fun _ _ _ h => h) (by rfl) ?_ hHeld ?_
      rotate_left
      ·(intro w yS; (try dsimp only at yS); go_simp; try with_reducible rfl)
      try simp only [Act.put,gX3,gX4,gX5]
      refine gT (i := 3) (d := some 60) (v := ?_) rfl rfl (by kernel_rfl) (fun _ _ _ h => h) (by rfl) ?_ hHeld ?_
      rotate_left
      ·(intro w yS; (try dsimp only at yS); go_simp; try with_reducible rfl)
      try simp only [Act.put,gX3,gX4,gX5]
      refine gT (i := 4) (d := some 61) (v := ?_) rfl rfl (by kernel_rfl) (fun _ _ _ h => h) (by rfl) ?_ hHeld ?_
      rotate_left
      ·(intro w yS; (try dsimp only at yS); go_simp; try with_reducible rfl)
      try simp only [Act.put,gX3,gX4,gX5]
      refine held_only (i := 5) (by kernel_rfl) rfl (by rfl) (fun K hK => ?_)
      go_simp
      go_at_call 153
      refine (HC.o _ (HRS.o.rd.drew)).mono ?_; rintro e w6 ⟨ho6,rfl⟩; have ho := (HRS.o.only.drew).trans ho6; unfold gives
      go_wp2
      refine ⟨rfl,ho,?_⟩; rw [HE.o]
      rfl
     | ok x =>
      obtain ⟨v,q2,m2⟩ := x; have hlts := rdV_lt s d q1 m' v q2 m2 (by omega) hm' hr
      have HC := gh (fun (W : World) (h : At W g s q1 (m' : Int)) => HIH.o q1 m' g W (by omega) hm' h)
      rw [hr] at HC; have HCM2 := gh (HN2.o ▸ HCM.o.next1 hlt HT.o hr); have HZS := gh (fun b (hb : (Value.slice an2 ns2.length cn2).ownBlock = some b) => HG.o.nlt hb)
      have HZX := gh (fun b (hb : (Value.slice ax us.length cx).ownBlock = some b) => HG.o.xlt hb)
      clear hr
      go_wp2_with fail
      have hvB : V + 1 <= wc.heap.size := HRS.o.vlt
      go_region_law (first
       | (refine step_append_any (w := w6.alloc (.cells #[.int .i64 u.k, .int .i64 u.n, .float .f64 u.f, .string u.s, .slice a4 u.ns.length b4, .slice a5 u.xs.length b5] 37)) rfl (.tmp 58) (.tmp 63) 35 rfl (V + 1) 37 i0 (.agg #[.int .i64 0, .int .i64 0, .float .f64 0, .string ByteArray.empty, .slice none 0 0, .slice none 0 0]) 6 88 Tryz.underlying35 hi0 hz0 hz1 hz2 rfl (by decide) (.slice ax us.length cx) us.length (valE.row us) rfl HOWN6.o (w6.heap.size + 1) (some ⟨w6.heap.size, 0, none⟩) 1 1 u.cells rfl HRED.o (valE.one u) (by unfold maxLen; omega) (by omega) (by simp; omega) ?_;
          intro v' w8 hown' hgrow hor;
          have hg8 := Gath.item (HG6.o.alloc (.cells #[.int .i64 u.k, .int .i64 u.n, .float .f64 u.f, .string u.s, .slice a4 u.ns.length b4, .slice a5 u.xs.length b5] 37)) (by simp; omega) (HUI.o.below ((Below.refl _ w6).alloc (Nat.le_refl _) (.cells #[.int .i64 u.k, .int .i64 u.n, .float .f64 u.f, .string u.s, .slice a4 u.ns.length b4, .slice a5 u.xs.length b5] 37))) HUS.o hvB HZS.o HZX.o hown' hgrow hor;
          have hr8 := HR6.o.grow hgrow (fun k hk => HG6.o.xge hk);
          obtain ⟨ax',cx',rfl⟩ := own_form hown';
          have c8 := hr8.cell 5; have f8 := hr8.frozen 5; have v8 := hr8.vlt;
          simp only [gX1,gX2] at c8;
          have HG8 := gh hg8; have HR8 := gh hr8;
          clear hg8 hr8 hown' hgrow hor)
       | (go_simp; go_at_call 153; refine (HC.o _ (HRS.o.rd.drew)).mono ?_; rintro e w6 ⟨ho6, u, rfl, hue, hui, hus, ha6⟩;
          obtain ⟨a4,b4,k4⟩ := hui.nslice;
          obtain ⟨a5,b5,k5⟩ := hui.xslice;
          unfold Val.agg;
          rw [k4,k5];
          have ho6' := ((Only.refl wc g).drew).trans ho6;
          have hz6 := ho6'.size;
          have hr6 := HRS.o.read ha6 ho6';
          have hg6 := HG.o.only ho6' (by have := hr6.lt; omega);
          have c6 := hr6.cell 5; have v6 := hr6.vlt;
          simp only [gX1,gX2] at c6;
          have hred : Reads (w6.alloc (.cells #[.int .i64 u.k, .int .i64 u.n, .float .f64 u.f, .string u.s, .slice a4 u.ns.length b4, .slice a5 u.xs.length b5] 37)) (w6.heap.size + 1) 6 (some ⟨w6.heap.size, 0, none⟩) 1 u.cells := by
           unfold Val.cells; rw [k4,k5]; exact reads_row w6 _ 37;
          have hown6 := hg6.items.alloc (.cells #[.int .i64 u.k, .int .i64 u.n, .float .f64 u.f, .string u.s, .slice a4 u.ns.length b4, .slice a5 u.xs.length b5] 37);
          have HR6 := gh hr6; have HG6 := gh hg6; have HRED := gh hred; have HOWN6 := gh hown6; have HUI := gh hui; have HUS := gh hus; have HUE := gh hue;
          clear ha6 ho6 ho6' hr6 hg6 hred hown6 hui hus hue k4 k5))
      all_goals
       have HRS9 := gh (HR8.o.set_ 5 (.slice ax' (us.length + 1) cx')); have HG9 := gh (HG8.o.set_ (p := ⟨V, 5,none⟩) (by simp) (.slice ax' (us.length + 1) cx'))
       go_wp2
       go_roundw
       case rel => exact ⟨i + 1,ns2,us ++ [u],an2,ax',cn2,cx',q2,m2,by go_num,by omega,by omega,by omega,by simp [HUL.o]; omega,gh (by simp [HUL.o]),by omega,gh (by rw [List.map_append,List.map_cons,List.map_nil,HUE.o]; exact HCM2.o),by simpa using HRS9,by simpa using HG9⟩
       case measure => simp [intOf]; omega
   ·have j1 : decide ((i : Int) < (n : Int)) = false := by simp; omega
    obtain rfl : i = n := by omega
    have hdone := HCM.o.done; have hfacts := rdL_lt (fun p m v q m' => rdV_lt s d p m v q m') i q0 (m + 1) ns (us.map Val.erase) q m' hq0s hm1 hdone
    have HE : Hid (rdV s (d + 1) p m = .ok (Val.node 6 ns (us.map Val.erase),q,m')) := gh (by rw [HED.o,hdone])
    have HTN := gh hfacts.2.2.2.2.2.2; clear hdone hfacts c0 cn0 cx0; have e0 := HRS.o.cell 0; have e1 := HRS.o.cell 1; have e2 := HRS.o.cell 2; have e3 := HRS.o.cell 3; have e4 := HRS.o.cell 4; have e5 := HRS.o.cell 5; have f0 := HRS.o.frozen 0; have f1 := HRS.o.frozen 1; have f2 := HRS.o.frozen 2; have f3 := HRS.o.frozen 3; have f4 := HRS.o.frozen 4; have f5 := HRS.o.frozen 5; simp only [gX1,gX2] at e0 e1 e2 e3 e4 e5; obtain ⟨WF,hWF⟩ := gXe (((((((wr.setCell ⟨V, 0,none⟩ (.int .i64 6)).setCell ⟨V, 1,none⟩ (.int .i64 0)).setCell ⟨V, 2,none⟩ (.float .f64 0)).setCell ⟨V, 3,none⟩ (.string ⟨#[]⟩)).setCell ⟨V, 4,none⟩ (.slice an ns.length cn)).setCell ⟨V, 5,none⟩ (.slice ax us.length cx))); have HSF : Hid (RS 37 w WF g V s _ _ [.int .i64 6, .int .i64 0, .float .f64 0, .string ⟨#[]⟩, .slice an ns.length cn, .slice ax us.length cx]) := gh (by rw [hWF]; exact HRS.o.six _ _ _ _ _ _)
    have HWF := gh hWF; clear hWF
    go_wp2_with fail
    rw [<- HWF.o]; clear e0 e1 e2 e3 e4 e5 f0 f1 f2 f3 f4 f5; have e0 := HSF.o.cell 0; have e1 := HSF.o.cell 1; have e2 := HSF.o.cell 2; have e3 := HSF.o.cell 3; have e4 := HSF.o.cell 4; have e5 := HSF.o.cell 5; simp only [gX1,gX2] at e0 e1 e2 e3 e4 e5; refine bodyPost_ret (v := .agg #[.int .i64 6, .int .i64 0, .float .f64 0, .string ⟨#[]⟩, .slice an ns.length cn, .slice ax us.length cx]) (by simp [results,Tryz.results153,go_sem,e0,e1,e2,e3,e4,e5]) rfl ?_
    exact node_end HSF.o (by rw [HWF.o]; exact HG.o.only (stored6' HRS.o.blk _ _ _ _ _ _).2 (by omega)) HE.o (by unfold i64r; omega) (by omega) (by omega) HTN.o
theorem rvalue_any (s : ByteArray) (hs : s.size <= 100000) (d : Nat) : ∀ (deep p m g : Nat) (w : World), deep + d = 13 -> p <= s.size -> m <= 200 -> At w g s p (m : Int) ->
  Calls Tryz.prog 153 #[.pointer (some ⟨g, 0,none⟩), .int .i64 deep] w fun e w' => ValRead (rdV s d p m) s g w e w' := by
 induction d with
 | zero =>
  intro deep p m g w hd hp hm h; obtain rfl : deep = 13 := by omega
  exact rv_deep s hs p m g w hp hm h
 | succ d ih =>
  intro deep p m g w hd hp hm h; have hd' : deep + d = 12 := by omega
  by_cases hm1 : m + 1 <= 200
  case neg => exact rv_begin s hs d p m deep g w hd' hp hm (by omega) h
  by_cases hin : p < s.size
  case neg => exact rv_torn s hs d p m deep g w hd' hp hm hm1 hin h
  by_cases h1 : (byteAt s p).toNat = 1
  ·by_cases h2 : p + 1 < s.size
   case neg => exact rv_bool_torn s hs d p m deep g w hd' hp hm hm1 hin h1 h2 h
   by_cases h3 : (byteAt s (p + 1)).toNat <= 1
   case neg => exact rv_bool_bad s hs d p m deep g w hd' hp hm hm1 hin h1 h2 h3 h
   exact rv_bool s hs d p m deep g w hd' hp hm hm1 hin h1 h2 h3 h
  by_cases h2 : (byteAt s p).toNat = 2
  ·cases hu : readU s (p + 1) 0 0 with
   | error k => exact rv_int_bad s hs d p m deep g w hd' hp hm hm1 hin h2 k hu h
   | ok x => exact rv_int s hs d p m deep g w hd' hp hm hm1 hin h2 x.1 x.2 hu h
  by_cases h3 : (byteAt s p).toNat = 3
  ·cases hu : readF s (p + 1) with
   | error k => exact rv_float_bad s hs d p m deep g w hd' hp hm hm1 hin h3 k hu h
   | ok x => exact rv_float s hs d p m deep g w hd' hp hm hm1 hin h3 x.1 x.2 hu h
  by_cases h4 : (byteAt s p).toNat = 4
  ·cases hu : readS s (p + 1) 200 with
   | error k => exact rv_str_bad s hs d p m deep g w hd' hp hm hm1 hin h4 k hu h
   | ok x => exact rv_str s hs d p m deep g w hd' hp hm hm1 hin h4 x.1 x.2 hu h
  have ih' := fun (p m g : Nat) (w : World) hp hm h => ih (deep + 1) p m g w (by omega) hp hm h
  by_cases h5 : (byteAt s p).toNat = 5
  ·exact rv_list s hs d p m deep g w hd' hp hm hm1 hin h5 ih' h
  by_cases h6 : (byteAt s p).toNat = 6
  ·exact rv_rec s hs d p m deep g w hd' hp hm hm1 hin h6 ih' h
  exact rv_other s hs d p m deep g w hd' hp hm hm1 hin (by omega) h
end Go.Proofs.YtaamihdibpioaaaGreat
namespace Go.Proofs.YtaamihdibpioaaaGreat
open Go.RowKit
end Go.Proofs.YtaamihdibpioaaaGreat
namespace Go.Proofs.YtaamihdibpioaaaGreat
open Go.RowKit
def FBegun (s : ByteArray) (p m g : Nat) (k : Int) (w : World) (e : Ending) (w' : World) : Prop := e = .returned (.tuple #[]) /\ RAt w' g s p k ((m + 1 : Nat) : Int) /\ Only w w' g
theorem fbegin_ok (s : ByteArray) (p m deep g : Nat) (k : Int) (w : World) (hm : m <= 200) (hd : deep <= 12) (hm1 : m + 1 <= 200) (h : RAt w g s p (0) (m : Int)) :
  Calls Tryz.prog 160 #[.pointer (some ⟨g, 0,none⟩), .int .i64 deep] w fun e w' => FBegun s p m g (0) w e w' := by
 have hw1 : IntKind.i64.wrap ((m : Int) + 1) = (m : Int) + 1 := IntWalk.i64_in _ (by omega)
 have i1 : decide ((12 : Int) < (deep : Int)) = false := by simp; omega
 have i2 : decide ((200 : Int) < (m : Int) + 1) = false := by simp; omega
 have h3 := h.cell 3; have f3 := h.frozen 3
 simp at h3
 obtain ⟨W,hW⟩ := gXe (w.setCell ⟨g, 3,none⟩ (.int .i64 ((m : Int) + 1)))
 have hA : RAt W g s p (0) ((m + 1 : Nat) : Int) := by
  rw [hW]; have := Blk.set_ h 3 (.int .i64 ((m : Int) + 1)); exact this
 have hO : Only w W g := by rw [hW]; exact (Only.refl w g).set_ (p := ⟨g, 3,none⟩) (.inl rfl) _
 have c3 := hA.cell 3; have c2 := hA.cell 2
 simp at c2 c3
 have HA := gh hA; have HO := gh hO; have HW := gh hW; clear h hA hO hW
 go_enter Tryz.func160,Tryz.ntmps160
 go_upto_region 1 with fail
 rw [<- HW.o]
 go_wp2
 go_end0
 exact ⟨rfl,HA.o,HO.o⟩
theorem fbegin_deep (s : ByteArray) (p m deep g : Nat) (k : Int) (w : World) (hm : m <= 200) (hd : 12 < deep) (h : RAt w g s p (0) (m : Int)) :
  Calls Tryz.prog 160 #[.pointer (some ⟨g, 0,none⟩), .int .i64 deep] w fun e w' => FBegun s p m g (5) w e w' := by
 have hw1 : IntKind.i64.wrap ((m : Int) + 1) = (m : Int) + 1 := IntWalk.i64_in _ (by omega)
 have i1 : decide ((12 : Int) < (deep : Int)) = true := by simp; omega
 have h3 := h.cell 3; have f3 := h.frozen 3
 simp at h3
 obtain ⟨W,hW⟩ := gXe (w.setCell ⟨g, 3,none⟩ (.int .i64 ((m : Int) + 1)))
 have hA : RAt W g s p (0) ((m + 1 : Nat) : Int) := by
  rw [hW]; have := Blk.set_ h 3 (.int .i64 ((m : Int) + 1)); exact this
 have hO : Only w W g := by rw [hW]; exact (Only.refl w g).set_ (p := ⟨g, 3,none⟩) (.inl rfl) _
 have c3 := hA.cell 3; have c2 := hA.cell 2
 simp at c2 c3
 have HA := gh hA; have HO := gh hO; have HW := gh hW; clear h hA hO hW
 go_enter Tryz.func160,Tryz.ntmps160
 go_upto_region 1 with fail
 rw [<- HW.o]
 go_wp2_with fail
 refine (ffail_any 5 s p ((m + 1 : Nat) : Int) g W HA.o).mono ?_; rintro e w3 ⟨rfl,ha,ho⟩; have HA3 := gh ha; have HO3 := gh (HO.o.trans ho); clear ha ho
 go_wp2
 go_end0
 exact ⟨rfl,HA3.o,HO3.o⟩
theorem fbegin_many (s : ByteArray) (p m deep g : Nat) (k : Int) (w : World) (hm : m <= 200) (hd : deep <= 12) (hm1 : 200 < m + 1) (h : RAt w g s p (0) (m : Int)) :
  Calls Tryz.prog 160 #[.pointer (some ⟨g, 0,none⟩), .int .i64 deep] w fun e w' => FBegun s p m g (5) w e w' := by
 have hw1 : IntKind.i64.wrap ((m : Int) + 1) = (m : Int) + 1 := IntWalk.i64_in _ (by omega)
 have i1 : decide ((12 : Int) < (deep : Int)) = false := by simp; omega
 have i2 : decide ((200 : Int) < (m : Int) + 1) = true := by simp; omega
 have h3 := h.cell 3; have f3 := h.frozen 3
 simp at h3
 obtain ⟨W,hW⟩ := gXe (w.setCell ⟨g, 3,none⟩ (.int .i64 ((m : Int) + 1)))
 have hA : RAt W g s p (0) ((m + 1 : Nat) : Int) := by
  rw [hW]; have := Blk.set_ h 3 (.int .i64 ((m : Int) + 1)); exact this
 have hO : Only w W g := by rw [hW]; exact (Only.refl w g).set_ (p := ⟨g, 3,none⟩) (.inl rfl) _
 have c3 := hA.cell 3; have c2 := hA.cell 2
 simp at c2 c3
 have HA := gh hA; have HO := gh hO; have HW := gh hW; clear h hA hO hW
 go_enter Tryz.func160,Tryz.ntmps160
 go_upto_region 1 with fail
 rw [<- HW.o]
 go_wp2_with fail
 refine (ffail_any 5 s p ((m + 1 : Nat) : Int) g W HA.o).mono ?_; rintro e w3 ⟨rfl,ha,ho⟩; have HA3 := gh ha; have HO3 := gh (HO.o.trans ho); clear ha ho
 go_wp2
 go_end0
 exact ⟨rfl,HA3.o,HO3.o⟩
theorem fbegin_old1 (s : ByteArray) (p m deep g : Nat) (k : Int) (w : World) (hm : m <= 200) (hk : k ≠ 0) (hd : 12 < deep) (h : RAt w g s p (k) (m : Int)) :
  Calls Tryz.prog 160 #[.pointer (some ⟨g, 0,none⟩), .int .i64 deep] w fun e w' => FBegun s p m g (k) w e w' := by
 have hw1 : IntKind.i64.wrap ((m : Int) + 1) = (m : Int) + 1 := IntWalk.i64_in _ (by omega)
 have i1 : decide ((12 : Int) < (deep : Int)) = true := by simp; omega
 have HK := gh hk; clear hk; have h3 := h.cell 3; have f3 := h.frozen 3
 simp at h3
 obtain ⟨W,hW⟩ := gXe (w.setCell ⟨g, 3,none⟩ (.int .i64 ((m : Int) + 1)))
 have hA : RAt W g s p (k) ((m + 1 : Nat) : Int) := by
  rw [hW]; have := Blk.set_ h 3 (.int .i64 ((m : Int) + 1)); exact this
 have hO : Only w W g := by rw [hW]; exact (Only.refl w g).set_ (p := ⟨g, 3,none⟩) (.inl rfl) _
 have c3 := hA.cell 3; have c2 := hA.cell 2
 simp at c2 c3
 have HA := gh hA; have HO := gh hO; have HW := gh hW; clear h hA hO hW
 go_enter Tryz.func160,Tryz.ntmps160
 go_upto_region 1 with fail
 rw [<- HW.o]
 go_wp2_with fail
 refine (ffail_old 5 k s p ((m + 1 : Nat) : Int) g W HA.o HK.o).mono ?_; rintro e w3 ⟨rfl,rfl⟩
 go_wp2
 go_end0
 exact ⟨rfl,HA.o,HO.o⟩
theorem fbegin_old2 (s : ByteArray) (p m deep g : Nat) (k : Int) (w : World) (hm : m <= 200) (hk : k ≠ 0) (hd : deep <= 12) (hm1 : 200 < m + 1) (h : RAt w g s p (k) (m : Int)) :
  Calls Tryz.prog 160 #[.pointer (some ⟨g, 0,none⟩), .int .i64 deep] w fun e w' => FBegun s p m g (k) w e w' := by
 have hw1 : IntKind.i64.wrap ((m : Int) + 1) = (m : Int) + 1 := IntWalk.i64_in _ (by omega)
 have i1 : decide ((12 : Int) < (deep : Int)) = false := by simp; omega
 have i2 : decide ((200 : Int) < (m : Int) + 1) = true := by simp; omega
 have HK := gh hk; clear hk; have h3 := h.cell 3; have f3 := h.frozen 3
 simp at h3
 obtain ⟨W,hW⟩ := gXe (w.setCell ⟨g, 3,none⟩ (.int .i64 ((m : Int) + 1)))
 have hA : RAt W g s p (k) ((m + 1 : Nat) : Int) := by
  rw [hW]; have := Blk.set_ h 3 (.int .i64 ((m : Int) + 1)); exact this
 have hO : Only w W g := by rw [hW]; exact (Only.refl w g).set_ (p := ⟨g, 3,none⟩) (.inl rfl) _
 have c3 := hA.cell 3; have c2 := hA.cell 2
 simp at c2 c3
 have HA := gh hA; have HO := gh hO; have HW := gh hW; clear h hA hO hW
 go_enter Tryz.func160,Tryz.ntmps160
 go_upto_region 1 with fail
 rw [<- HW.o]
 go_wp2_with fail
 refine (ffail_old 5 k s p ((m + 1 : Nat) : Int) g W HA.o HK.o).mono ?_; rintro e w3 ⟨rfl,rfl⟩
 go_wp2
 go_end0
 exact ⟨rfl,HA.o,HO.o⟩
theorem fbegin_old3 (s : ByteArray) (p m deep g : Nat) (k : Int) (w : World) (hm : m <= 200) (hk : k ≠ 0) (hd : deep <= 12) (hm1 : m + 1 <= 200) (h : RAt w g s p (k) (m : Int)) :
  Calls Tryz.prog 160 #[.pointer (some ⟨g, 0,none⟩), .int .i64 deep] w fun e w' => FBegun s p m g (k) w e w' := by
 have hw1 : IntKind.i64.wrap ((m : Int) + 1) = (m : Int) + 1 := IntWalk.i64_in _ (by omega)
 have i1 : decide ((12 : Int) < (deep : Int)) = false := by simp; omega
 have i2 : decide ((200 : Int) < (m : Int) + 1) = false := by simp; omega
 have h3 := h.cell 3; have f3 := h.frozen 3
 simp at h3
 obtain ⟨W,hW⟩ := gXe (w.setCell ⟨g, 3,none⟩ (.int .i64 ((m : Int) + 1)))
 have hA : RAt W g s p (k) ((m + 1 : Nat) : Int) := by
  rw [hW]; have := Blk.set_ h 3 (.int .i64 ((m : Int) + 1)); exact this
 have hO : Only w W g := by rw [hW]; exact (Only.refl w g).set_ (p := ⟨g, 3,none⟩) (.inl rfl) _
 have c3 := hA.cell 3; have c2 := hA.cell 2
 simp at c2 c3
 have HA := gh hA; have HO := gh hO; have HW := gh hW; clear h hA hO hW
 go_enter Tryz.func160,Tryz.ntmps160
 go_upto_region 1 with fail
 rw [<- HW.o]
 go_wp2
 go_end0
 exact ⟨rfl,HA.o,HO.o⟩
theorem fbegin_bad (s : ByteArray) (p m deep g : Nat) (w : World) (hm : m <= 200) (hb : 12 < deep \/ 200 < m + 1) (h : RAt w g s p 0 (m : Int)) :
  Calls Tryz.prog 160 #[.pointer (some ⟨g, 0,none⟩), .int .i64 deep] w fun e w' => FBegun s p m g 5 w e w' := by
 by_cases hd : 12 < deep
 ·exact fbegin_deep s p m deep g 0 w hm hd h
 ·exact fbegin_many s p m deep g 0 w hm (by omega) (by omega) h
theorem fbegin_old (s : ByteArray) (p m deep g : Nat) (k : Int) (w : World) (hm : m <= 200) (hk : k ≠ 0) (h : RAt w g s p k (m : Int)) :
  Calls Tryz.prog 160 #[.pointer (some ⟨g, 0,none⟩), .int .i64 deep] w fun e w' => FBegun s p m g k w e w' := by
 by_cases hd : 12 < deep
 ·exact fbegin_old1 s p m deep g k w hm hk hd h
 ·by_cases hm1 : 200 < m + 1
  ·exact fbegin_old2 s p m deep g k w hm hk (by omega) hm1 h
  ·exact fbegin_old3 s p m deep g k w hm hk (by omega) (by omega) h
def FMany (r : Except Int (Nat × Nat)) (s : ByteArray) (parts : Int) (g : Nat) (w : World) (e : Ending) (w' : World) : Prop :=
 Only w w' g /\ ∃ (n q : Nat) (k : Int),e = .returned (.int .i64 n) /\ RAt w' g s q k parts /\ q <= s.size /\ n <= 200 /\ ((k = 0 /\ r = .ok (n,q)) \/ (k ≠ 0 /\ n = 0 /\ r = .error k))
theorem fmany_any (s : ByteArray) (p : Nat) (parts : Int) (g : Nat) (w : World) (hs : s.size <= 100000) (hp : p <= s.size) (h : RAt w g s p 0 parts) :
  Calls Tryz.prog 164 #[.pointer (some ⟨g, 0,none⟩)] w fun e w' => FMany (readM s p) s parts g w e w' := by
 have hr := fuint_any s p parts g w hs hp h; clear h
 cases hu : readU s p 0 0 with
 | error k =>
  rw [hu] at hr; have hk : k ≠ 0 := by rcases readU_err s p 0 0 k hu with rfl | rfl <;> decide
  have he : readM s p = .error k := by unfold readM; rw [hu]
  have HE := gh he; have HK := gh hk; have HR := gh hr; clear hr hu he hk
  go_enter Tryz.func164,Tryz.ntmps164
  go_wp2_with fail
  refine HR.o.mono ?_; rintro e w2 ⟨ho2,rfl,q,hq,ha⟩; have HO := gh ho2; have HA := gh ha; clear ho2 ha
  go_wp2
  go_ret
  exact ⟨HO.o, 0,q,k,rfl,HA.o,hq,by omega, .inr ⟨HK.o,rfl,HE.o⟩⟩
 | ok nq =>
  obtain ⟨n,q⟩ := nq; rw [hu] at hr; obtain ⟨hn,hpq,hqs⟩ := readU_lt s p 0 0 (by decide) (by omega) n q hu
  have hre : readM s p = if n <= 200 then .ok (n,q) else .error 5 := by unfold readM; rw [hu]
  have HR := gh hr; clear hr hu
  by_cases hb : n <= 200
  ·rw [if_pos hb] at hre
   have i1 : decide ((200 : Int) < (n : Int)) = false := by simp; omega
   have hcv : IntKind.i64.wrap (n : Int) = (n : Int) := IntWalk.i64_in _ (by omega)
   have HE := gh hre; clear hre
   go_enter Tryz.func164,Tryz.ntmps164
   go_wp2_with fail
   refine HR.o.mono ?_; rintro e w2 ⟨ho2,rfl,ha2⟩; have HA2 := gh ha2; have HO2 := gh ho2; clear ha2 ho2 HR
   go_wp2
   go_ret
   refine ⟨HO2.o,n,q, 0,?_,HA2.o,hqs,hb, .inl ⟨rfl,HE.o⟩⟩
   first
   | rfl
   | (refine congrArg (fun v => Ending.returned (Value.int .i64 v)) ?_; simp; omega)
  ·rw [if_neg hb] at hre
   have i1 : decide ((200 : Int) < (n : Int)) = true := by simp; omega
   have HE := gh hre; clear hre
   go_enter Tryz.func164,Tryz.ntmps164
   go_wp2_with fail
   refine HR.o.mono ?_; rintro e w2 ⟨ho2,rfl,ha2⟩; have HA2 := gh ha2; have HO2 := gh ho2; clear ha2 ho2 HR
   go_wp2_with fail
   refine (ffail_any 5 s q parts g w2 HA2.o).mono ?_; rintro e w3 ⟨rfl,ha3,ho3⟩; have HA3 := gh ha3; have HO3 := gh (HO2.o.trans ho3); clear ha3 ho3
   go_wp2
   go_ret
   exact ⟨HO3.o, 0,q, 5,rfl,HA3.o,hqs,by omega, .inr ⟨by decide,rfl,HE.o⟩⟩
def FByteD (s : ByteArray) (p : Nat) (parts : Int) (g : Nat) (w : World) (e : Ending) (w' : World) : Prop :=
 Only w w' g /\ ∃ (c q : Nat) (k : Int),e = .returned (.int .i64 c) /\ c < 256 /\ RAt w' g s q k parts /\ q <= s.size /\ ((k = 0 /\ q = p + 1 /\ p < s.size /\ c = (byteAt s p).toNat) \/ (k = 14 /\ c = 0 /\ s.size <= p))
theorem fbyte_any (s : ByteArray) (p : Nat) (parts : Int) (g : Nat) (w : World) (hs : s.size <= 100000) (hp : p <= s.size) (h : RAt w g s p 0 parts) :
  Calls Tryz.prog 91 #[.pointer (some ⟨g, 0,none⟩)] w fun e w' => FByteD s p parts g w e w' := by
 by_cases hin : p < s.size
 ·exact (fbyte_ok s p parts g w hs hin h).mono fun e w' ⟨he,ha,ho⟩ => ⟨ho, (byteAt s p).toNat,p + 1, 0,by rw [he,byteAt_eq hin], (byteAt s p).toNat_lt,ha,hin, .inl ⟨rfl,rfl,hin,rfl⟩⟩
 ·exact (fbyte_torn s p parts g w hs (by omega) (by omega) h).mono fun e w' ⟨he,ha,ho⟩ => ⟨ho, 0,p, 14,he,by omega,ha,hp, .inr ⟨rfl,rfl,by omega⟩⟩
theorem fbyte_k (s : ByteArray) (p : Nat) (parts : Int) (g k : Nat) (w : World) (hs : s.size <= 100000) (hp : p < s.size) (h : RAt w g s p 0 parts) (hk : (byteAt s p).toNat = k) :
  Calls Tryz.prog 91 #[.pointer (some ⟨g, 0,none⟩)] w fun e w' => e = .returned (.int .i64 k) /\ RAt w' g s (p + 1) 0 parts /\ Only w w' g :=
 (fbyte_ok s p parts g w hs hp h).mono fun e w' ⟨he,ha,ho⟩ => ⟨by rw [he, <- byteAt_eq,hk],ha,ho⟩
def FStrD (r : Except Int (ByteArray × Nat)) (s : ByteArray) (most parts : Int) (g : Nat) (w : World) (e : Ending) (w' : World) : Prop :=
 Only w w' g /\ ∃ (t : ByteArray) (q : Nat) (k : Int),e = .returned (.string t) /\ RAt w' g s q k parts /\ q <= s.size /\ (t.size : Int) <= most /\ ((k = 0 /\ r = .ok (t,q)) \/ (k ≠ 0 /\ r = .error k))
theorem readS_err {s : ByteArray} {p : Nat} {most k : Int} (h : readS s p most = .error k) : k ≠ 0 := by
 unfold readS at h
 cases hu : readU s p 0 0 with
 | error k' =>
  rw [hu] at h; injection h with h; subst h
  rcases readU_err s p 0 0 _ hu with rfl | rfl <;> decide
 | ok x =>
  obtain ⟨n,q⟩ := x; rw [hu] at h; simp only at h
  split at h
  ·split at h
   ·cases h
   ·injection h with h; subst h; decide
  ·injection h with h; subst h; decide
theorem fstrD_any (s : ByteArray) (p : Nat) (parts most : Int) (g : Nat) (w : World) (hs : s.size <= 100000) (hp : p <= s.size) (hm1 : 0 <= most) (hm2 : most <= 9223372036854775807) (h : RAt w g s p 0 parts) :
  Calls Tryz.prog 163 #[.pointer (some ⟨g, 0,none⟩), .int .i64 most] w fun e w' => FStrD (readS s p most) s most parts g w e w' := by
 have hr := fstr_any s p parts most g w hs hp (by omega) hm2 h
 cases hu : readS s p most with
 | error k =>
  rw [hu] at hr; exact hr.mono fun e w' ⟨ho,he,q,hq,ha⟩ => ⟨ho,⟨#[]⟩,q,k,he,ha,hq,by show ((0 : Nat) : Int) <= most; omega, .inr ⟨readS_err hu,rfl⟩⟩
 | ok x =>
  obtain ⟨t,q⟩ := x; rw [hu] at hr; have hl := readS_lt hu; exact hr.mono fun e w' ⟨ho,he,ha⟩ => ⟨ho,t,q, 0,he,ha,hl.2.1,hl.2.2, .inl ⟨rfl,rfl⟩⟩
structure RS2 (TE : TypeId) (z : List Value) (w wr : World) (g R V : Nat) (s : ByteArray) (q : Nat) (k m : Int) (cs : List Value) : Prop where
 rd : RAt wr g s q k m
 res : Blk wr R TE z.toArray
 blk : Blk wr V TE cs.toArray
 only : Only w wr g
 lt : g < V
 glt : g < R
 rlt : R < V
 eq : R = w.heap.size
section
variable {TE : TypeId} {z : List Value} {w wr w2 w6 w8 : World} {g R V : Nat} {s : ByteArray} {q q' : Nat} {k k' m m' : Int} {cs : List Value}
theorem RS2.read (h : RS2 TE z w wr g R V s q k m cs) (ha : RAt w2 g s q' k' m') (ho : Only wr w2 g) : RS2 TE z w w2 g R V s q' k' m' cs :=
 ⟨ha,h.res.grown ho (by have := h.glt; simp; omega),h.blk.grown ho (by have := h.lt; simp; omega),h.only.trans ho,h.lt,h.glt,h.rlt,h.eq⟩
theorem RS2.set_ (h : RS2 TE z w wr g R V s q k m cs) (i : Nat) (u : Value) : RS2 TE z w (wr.setCell ⟨V, i, none⟩ u) g R V s q k m (cs.set i u) :=
 ⟨Blk.far h.rd (by have := h.lt; simp; omega) u,Blk.far h.res (by have := h.rlt; simp; omega) u,blk_set h.blk u,h.only.set_ (p := ⟨V,i,none⟩) (.inr (by have := h.rlt; rw [<- h.eq]; simp; omega)) u,h.lt,h.glt,h.rlt,h.eq⟩
theorem RS2.cell (h : RS2 TE z w wr g R V s q k m cs) (i : Nat) : wr.cell? ⟨V,i,none⟩ = cs[i]? := by rw [h.blk.cell]; simp
theorem RS2.frozen (h : RS2 TE z w wr g R V s q k m cs) (i : Nat) : wr.frozen? ⟨V,i,none⟩ = false := h.blk.frozen i
theorem RS2.vlt (h : RS2 TE z w wr g R V s q k m cs) : V < wr.heap.size := h.blk.lt
theorem RS2.err (h : RS2 TE z w wr g R V s q k m cs) : wr.cell? ⟨g, 2,none⟩ = some (.int .i64 k) := by have := h.rd.cell 2; simpa using this
theorem RS2.grow {o : Obj} {row : Option Nat} (h : RS2 TE z w w6 g R V s q k m cs) (hg : (w6.alloc o).grownBy w8 row) (hr : ∀ k, row = some k -> V + 1 <= k) : RS2 TE z w w8 g R V s q k m cs :=
 ⟨(h.rd.alloc o).grown hg (fun e => by have := hr g e.symm; have := h.lt; omega), (h.res.alloc o).grown hg (fun e => by have := hr R e.symm; have := h.rlt; omega), (h.blk.alloc o).grown hg (fun e => by have := hr V e.symm; omega),
  only_app2 (h.only.alloc o) hg (fun k hk => by have := hr k hk; have := h.rlt; rw [<- h.eq]; omega),h.lt,h.glt,h.rlt,h.eq⟩
structure RS1 (TE : TypeId) (z : List Value) (w wr : World) (g R : Nat) (s : ByteArray) (q : Nat) (k m : Int) : Prop where
 rd : RAt wr g s q k m
 res : Blk wr R TE z.toArray
 only : Only w wr g
 glt : g < R
 eq : R = w.heap.size
theorem RS1.start (TE : TypeId) (z : List Value) (h : RAt w g s q k m) : RS1 TE z w (w.alloc (.cells z.toArray TE)) g w.heap.size s q k m :=
 ⟨h.alloc _,Blk.new w TE _, (Only.refl w g).alloc _,h.lt,rfl⟩
theorem RS1.read (h : RS1 TE z w wr g R s q k m) (ha : RAt w2 g s q' k' m') (ho : Only wr w2 g) : RS1 TE z w w2 g R s q' k' m' :=
 ⟨ha,h.res.grown ho (by have := h.glt; simp; omega),h.only.trans ho,h.glt,h.eq⟩
theorem RS1.make (h : RS1 TE z w wr g R s q k m) (cs : List Value) : RS2 TE z w (wr.alloc (.cells cs.toArray TE)) g R wr.heap.size s q k m cs :=
 ⟨h.rd.alloc _,h.res.alloc _,Blk.new wr TE _,h.only.alloc _,h.rd.lt,h.glt,h.res.lt,h.eq⟩
end
end Go.Proofs.YtaamihdibpioaaaGreat
namespace Go.Proofs.YtaamihdibpioaaaGreat
open Go.RowKit
def FValD (s : ByteArray) (d p m : Nat) (k : Int) (g : Nat) (w : World) (e : Ending) (w' : World) : Prop :=
 Only w w' g /\ ∃ (u : Val) (q m' : Nat) (k' : Int), e = .returned u.agg /\ u.In w' /\ u.Sep (fun b => w.heap.size <= b) /\ RAt w' g s q k' (m' : Int) /\ q <= s.size /\ m' <= 201 /\
  ((k = 0 /\ k' = 0 /\ m' <= 200 /\ rdV s d p m = .ok (u.erase,q,m')) \/ (k = 0 /\ k' ≠ 0 /\ rdV s d p m = .error k') \/ (k ≠ 0 /\ k' = k))
theorem fleaf_end {K n : Int} {f m' q p m d g R V : Nat} {t s : ByteArray} {k k' : Int} {w WF : World} (hrd : RAt WF g s q k' (m' : Int)) (ho : Only w WF g)
  (hk : i64r K) (hn : i64r n) (hf : f < 18446744073709551616) (ht : strok t) (hq : q <= s.size) (hm : m' <= 201)
  (hr : (k = 0 /\ k' = 0 /\ m' <= 200 /\ rdV s d p m = .ok (.mk K n f t .no [] .no [],q,m')) \/ (k = 0 /\ k' ≠ 0 /\ rdV s d p m = .error k') \/ (k ≠ 0 /\ k' = k)) :
  FValD s d p m k g w (.returned (.agg #[.int .i64 K, .int .i64 n, .float .f64 f, .string t, .slice none 0 0, .slice none 0 0])) WF := by
 refine ⟨ho, .mk K n f t .no [] .no [],q,m',k',rfl,?_,?_,hrd,hq,hm,?_⟩
 ·rw [Val.in_iff]
  exact ⟨⟨hk,hn,hf,ht,by simp [Val.ns],by simp [Val.xs],fun s h => by simp [Val.ns] at h⟩,rfl,rfl,fun x hx => by simp [Val.xs] at hx⟩
 ·rw [Val.sep_iff]
  exact ⟨trivial,trivial,fun x hx => by simp [Val.xs] at hx⟩
 ·exact hr
theorem fnode_end {K : Int} {m' q p m d g R V : Nat} {s : ByteArray} {k k' : Int} {w WF : World} {ns : List ByteArray} {us : List Val} {an ax : Option Addr} {cn cx : Nat} (hrd : RAt WF g s q k' (m' : Int)) (ho : Only w WF g)
  (hg : Gath valE 37 (V + 1) WF ns us (.slice an ns.length cn) (.slice ax us.length cx)) (hV : w.heap.size <= V) (hk : i64r K) (hn : ns.length <= 300) (hx : us.length <= 300) (ht : ∀ t,t ∈ ns -> t.size <= 30) (hq : q <= s.size) (hm : m' <= 201)
  (hr : (k = 0 /\ k' = 0 /\ m' <= 200 /\ rdV s d p m = .ok (Val.node K ns (us.map Val.erase),q,m')) \/ (k = 0 /\ k' ≠ 0 /\ rdV s d p m = .error k') \/ (k ≠ 0 /\ k' = k)) :
  FValD s d p m k g w (.returned (.agg #[.int .i64 K, .int .i64 0, .float .f64 0, .string ⟨#[]⟩, .slice an ns.length cn, .slice ax us.length cx])) WF := by
 obtain ⟨sn,hsn,hln,hspn⟩ := lies_of_own hg.names; obtain ⟨sx,hsx,hlx,hspx⟩ := rowLies_of_own hg.items; refine ⟨ho, .mk K 0 0 ⟨#[]⟩ sn ns sx us,q,m',k',?_,?_,?_,hrd,hq,hm,?_⟩
 ·show _ = Ending.returned (.agg #[.int .i64 K, .int .i64 0, .float .f64 0, .string ⟨#[]⟩, sn.val ns.length, sx.val us.length])
  rw [<- hsn, <- hsx]
 ·rw [Val.in_iff]
  refine ⟨⟨hk,by unfold i64r; simp [Val.n],by simp [Val.f],by unfold strok; simp [Val.s]; decide,?_,?_,fun s hs => ?_⟩,hln,hlx,fun x hx' => (hg.each x hx').1⟩
  ·show ns.length <= _; omega
  ·show us.length <= _; omega
  ·have := ht s hs; unfold strok; omega
 ·rw [Val.sep_iff]
  exact ⟨hspn.mono (fun b hb => by omega),hspx.mono (fun b hb => by omega),fun x hx' => (hg.each x hx').2.mono (fun b hb => by have := hb.1; omega)⟩
 ·rw [Val.erase_eq]
  exact hr
theorem fV_old (s : ByteArray) (hs : s.size <= 100000) (d p m deep g : Nat) (w : World) (hd : deep + d = 13) (hp : p <= s.size) (hm : m <= 200) (k : Int) (hk : k ≠ 0) (h : RAt w g s p k (m : Int)) :
  Calls Tryz.prog 134 #[.pointer (some ⟨g, 0,none⟩), .int .i64 deep] w fun e w' => FValD s d p m k g w e w' := by
 have hsf := run_store_flt; obtain ⟨R,hR⟩ := gXe (w.heap.size); obtain ⟨W,hW⟩ := gXe (w.alloc (.cells #[.int .i64 0, .int .i64 0, .float .f64 0, .string ⟨#[]⟩, .slice none 0 0, .slice none 0 0] 37)); have hst : RS1 37 [.int .i64 0, .int .i64 0, .float .f64 0, .string ⟨#[]⟩, .slice none 0 0, .slice none 0 0] w W g R s p k (m : Int) := by rw [hR,hW]; exact RS1.start 37 [.int .i64 0, .int .i64 0, .float .f64 0, .string ⟨#[]⟩, .slice none 0 0, .slice none 0 0] h
 have HR := gh hR; have HW := gh hW; have HS0 := gh hst; clear hR hW hst h; have HBEG := gh (fbegin_old s p m deep g k W hm hk HS0.o.rd); have hk1 : (k == 0) = false := by simpa using hk
 have hk2 : (k != 0) = true := by simpa using hk
 have HK := gh hk; clear hk
 go_enter Tryz.func134,Tryz.ntmps134
 go_wp2_with fail
 rw [<- HW.o, <- HR.o]; refine HBEG.o.mono ?_; rintro e w1 ⟨rfl,ha1,ho1⟩; have HS1 := gh (HS0.o.read ha1 ho1); clear ha1 ho1 HBEG HW; have HB1 := gh (fbyte_old k s p ((m + 1 : Nat) : Int) g w1 HS1.o.rd HK.o)
 go_wp2_with fail
 refine HB1.o.mono ?_; rintro e w2 ⟨rfl,rfl⟩; have HS2 := HS1; clear HB1 HS1; obtain ⟨V,hV⟩ := gXe (w1.heap.size); obtain ⟨W2,hW2⟩ := gXe (w1.alloc (.cells #[.int .i64 0, .int .i64 0, .float .f64 0, .string ⟨#[]⟩, .slice none 0 0, .slice none 0 0] 37)); have hs3 := HS2.o.make [.int .i64 0, .int .i64 0, .float .f64 0, .string ⟨#[]⟩, .slice none 0 0, .slice none 0 0]; rw [show w1.alloc (.cells [.int .i64 0, .int .i64 0, .float .f64 0, .string ⟨#[]⟩, .slice none 0 0, .slice none 0 0].toArray 37) = W2 from hW2.symm, <- hV] at hs3
 have HS3 := gh hs3; have HW2 := gh hW2; have HV := gh hV; clear hs3 hW2 hV HS2
 go_upto_region 3 with fail
 rw [<- HW2.o, <- HV.o]; have c0 := HS3.o.cell 0; have ce := HS3.o.err; have hvl := HS3.o.vlt; simp only [gX1,gX2] at c0; have e0 := HS3.o.cell 0; have e1 := HS3.o.cell 1; have e2 := HS3.o.cell 2; have e3 := HS3.o.cell 3; have e4 := HS3.o.cell 4; have e5 := HS3.o.cell 5; simp only [gX1,gX2] at e0 e1 e2 e3 e4 e5; have r0 := HS3.o.res.cell 0; have f0 := HS3.o.res.frozen 0; have r1 := HS3.o.res.cell 1; have f1 := HS3.o.res.frozen 1; have r2 := HS3.o.res.cell 2; have f2 := HS3.o.res.frozen 2; have r3 := HS3.o.res.cell 3; have f3 := HS3.o.res.frozen 3; have r4 := HS3.o.res.cell 4; have f4 := HS3.o.res.frozen 4; have r5 := HS3.o.res.cell 5; have f5 := HS3.o.res.frozen 5; simp only [gX0,gX1,gX2] at r0 r1 r2 r3 r4 r5; obtain ⟨WF,hWF⟩ := gXe (((((((W2.setCell ⟨R, 0,none⟩ (.int .i64 0)).setCell ⟨R, 1,none⟩ (.int .i64 0)).setCell ⟨R, 2,none⟩ (.float .f64 0)).setCell ⟨R, 3,none⟩ (.string ⟨#[]⟩)).setCell ⟨R, 4,none⟩ (.slice none 0 0)).setCell ⟨R, 5,none⟩ (.slice none 0 0))); have hst := stored6' HS3.o.res (.int .i64 0) (.int .i64 0) (.float .f64 0) (.string ⟨#[]⟩) (.slice none 0 0) (.slice none 0 0); rw [<- hWF] at hst; have HST := gh hst; have HWF := gh hWF; have HRD := gh (Blk.grown HS3.o.rd hst.2 (by have := HS3.o.glt; simp; omega))
 have HON := gh (only_far HS3.o.only hst.2 (by rw [HS3.o.eq]; exact Nat.le_refl _))
 clear hWF hst
 go_wp2_with fail
 rw [<- HWF.o]; clear e0 r0 f0 e1 r1 f1 e2 r2 f2 e3 r3 f3 e4 r4 f4 e5 r5 f5; have e0 := HST.o.1.cell 0; have e1 := HST.o.1.cell 1; have e2 := HST.o.1.cell 2; have e3 := HST.o.1.cell 3; have e4 := HST.o.1.cell 4; have e5 := HST.o.1.cell 5; simp only [gX0,gX1,gX2] at e0 e1 e2 e3 e4 e5; refine bodyPost_ret (v := .agg #[.int .i64 0, .int .i64 0, .float .f64 0, .string ⟨#[]⟩, .slice none 0 0, .slice none 0 0]) (by simp [results,Tryz.results134,go_sem,e0,e1,e2,e3,e4,e5]) rfl ?_
 exact fleaf_end (R := R) (V := V) HRD.o HON.o (by unfold i64r; omega) (by unfold i64r; omega) (by omega) (by unfold strok; decide) hp (by omega) (.inr (.inr ⟨HK.o,rfl⟩))
theorem fV_begin (s : ByteArray) (hs : s.size <= 100000) (d p m deep g : Nat) (w : World) (hd : deep + d = 13) (hp : p <= s.size) (hm : m <= 200) (hb : 12 < deep \/ 200 < m + 1) (h : RAt w g s p 0 (m : Int)) :
  Calls Tryz.prog 134 #[.pointer (some ⟨g, 0,none⟩), .int .i64 deep] w fun e w' => FValD s d p m 0 g w e w' := by
 have hsf := run_store_flt; obtain ⟨R,hR⟩ := gXe (w.heap.size); obtain ⟨W,hW⟩ := gXe (w.alloc (.cells #[.int .i64 0, .int .i64 0, .float .f64 0, .string ⟨#[]⟩, .slice none 0 0, .slice none 0 0] 37)); have hst : RS1 37 [.int .i64 0, .int .i64 0, .float .f64 0, .string ⟨#[]⟩, .slice none 0 0, .slice none 0 0] w W g R s p 0 (m : Int) := by rw [hR,hW]; exact RS1.start 37 [.int .i64 0, .int .i64 0, .float .f64 0, .string ⟨#[]⟩, .slice none 0 0, .slice none 0 0] h
 have HR := gh hR; have HW := gh hW; have HS0 := gh hst; clear hR hW hst h; have HBEG := gh (fbegin_bad s p m deep g W hm hb HS0.o.rd)
 have HE : Hid (rdV s d p m = .error 5) := gh (by
  cases d with
  | zero => unfold rdV; rfl
  | succ d => unfold rdV; rw [if_pos (by omega)])
 clear hb
 go_enter Tryz.func134,Tryz.ntmps134
 go_wp2_with fail
 rw [<- HW.o, <- HR.o]; refine HBEG.o.mono ?_; rintro e w1 ⟨rfl,ha1,ho1⟩; have HS1 := gh (HS0.o.read ha1 ho1); clear ha1 ho1 HBEG HW; have HB1 := gh (fbyte_old 5 s p ((m + 1 : Nat) : Int) g w1 HS1.o.rd (by decide))
 go_wp2_with fail
 refine HB1.o.mono ?_; rintro e w2 ⟨rfl,rfl⟩; have HS2 := HS1; clear HB1 HS1; obtain ⟨V,hV⟩ := gXe (w1.heap.size); obtain ⟨W2,hW2⟩ := gXe (w1.alloc (.cells #[.int .i64 0, .int .i64 0, .float .f64 0, .string ⟨#[]⟩, .slice none 0 0, .slice none 0 0] 37)); have hs3 := HS2.o.make [.int .i64 0, .int .i64 0, .float .f64 0, .string ⟨#[]⟩, .slice none 0 0, .slice none 0 0]; rw [show w1.alloc (.cells [.int .i64 0, .int .i64 0, .float .f64 0, .string ⟨#[]⟩, .slice none 0 0, .slice none 0 0].toArray 37) = W2 from hW2.symm, <- hV] at hs3
 have HS3 := gh hs3; have HW2 := gh hW2; have HV := gh hV; clear hs3 hW2 hV HS2
 go_upto_region 3 with fail
 rw [<- HW2.o, <- HV.o]; have c0 := HS3.o.cell 0; have ce := HS3.o.err; have hvl := HS3.o.vlt; simp only [gX1,gX2] at c0; have e0 := HS3.o.cell 0; have e1 := HS3.o.cell 1; have e2 := HS3.o.cell 2; have e3 := HS3.o.cell 3; have e4 := HS3.o.cell 4; have e5 := HS3.o.cell 5; simp only [gX1,gX2] at e0 e1 e2 e3 e4 e5; have r0 := HS3.o.res.cell 0; have f0 := HS3.o.res.frozen 0; have r1 := HS3.o.res.cell 1; have f1 := HS3.o.res.frozen 1; have r2 := HS3.o.res.cell 2; have f2 := HS3.o.res.frozen 2; have r3 := HS3.o.res.cell 3; have f3 := HS3.o.res.frozen 3; have r4 := HS3.o.res.cell 4; have f4 := HS3.o.res.frozen 4; have r5 := HS3.o.res.cell 5; have f5 := HS3.o.res.frozen 5; simp only [gX0,gX1,gX2] at r0 r1 r2 r3 r4 r5; obtain ⟨WF,hWF⟩ := gXe (((((((W2.setCell ⟨R, 0,none⟩ (.int .i64 0)).setCell ⟨R, 1,none⟩ (.int .i64 0)).setCell ⟨R, 2,none⟩ (.float .f64 0)).setCell ⟨R, 3,none⟩ (.string ⟨#[]⟩)).setCell ⟨R, 4,none⟩ (.slice none 0 0)).setCell ⟨R, 5,none⟩ (.slice none 0 0))); have hst := stored6' HS3.o.res (.int .i64 0) (.int .i64 0) (.float .f64 0) (.string ⟨#[]⟩) (.slice none 0 0) (.slice none 0 0); rw [<- hWF] at hst; have HST := gh hst; have HWF := gh hWF; have HRD := gh (Blk.grown HS3.o.rd hst.2 (by have := HS3.o.glt; simp; omega))
 have HON := gh (only_far HS3.o.only hst.2 (by rw [HS3.o.eq]; exact Nat.le_refl _))
 clear hWF hst
 go_wp2_with fail
 rw [<- HWF.o]; clear e0 r0 f0 e1 r1 f1 e2 r2 f2 e3 r3 f3 e4 r4 f4 e5 r5 f5; have e0 := HST.o.1.cell 0; have e1 := HST.o.1.cell 1; have e2 := HST.o.1.cell 2; have e3 := HST.o.1.cell 3; have e4 := HST.o.1.cell 4; have e5 := HST.o.1.cell 5; simp only [gX0,gX1,gX2] at e0 e1 e2 e3 e4 e5; refine bodyPost_ret (v := .agg #[.int .i64 0, .int .i64 0, .float .f64 0, .string ⟨#[]⟩, .slice none 0 0, .slice none 0 0]) (by simp [results,Tryz.results134,go_sem,e0,e1,e2,e3,e4,e5]) rfl ?_
 exact fleaf_end (R := R) (V := V) HRD.o HON.o (by unfold i64r; omega) (by unfold i64r; omega) (by omega) (by unfold strok; decide) hp (by omega) (.inr (.inl ⟨rfl,by decide,HE.o⟩))
theorem fV_torn (s : ByteArray) (hs : s.size <= 100000) (d p m deep g : Nat) (w : World) (hd : deep + d = 13) (hp : p <= s.size) (hm : m <= 200) (hd12 : deep <= 12) (hm1 : m + 1 <= 200) (hin : ¬ p < s.size) (h : RAt w g s p 0 (m : Int)) :
  Calls Tryz.prog 134 #[.pointer (some ⟨g, 0,none⟩), .int .i64 deep] w fun e w' => FValD s d p m 0 g w e w' := by
 have hsf := run_store_flt; obtain ⟨R,hR⟩ := gXe (w.heap.size); obtain ⟨W,hW⟩ := gXe (w.alloc (.cells #[.int .i64 0, .int .i64 0, .float .f64 0, .string ⟨#[]⟩, .slice none 0 0, .slice none 0 0] 37)); have hst : RS1 37 [.int .i64 0, .int .i64 0, .float .f64 0, .string ⟨#[]⟩, .slice none 0 0, .slice none 0 0] w W g R s p 0 (m : Int) := by rw [hR,hW]; exact RS1.start 37 [.int .i64 0, .int .i64 0, .float .f64 0, .string ⟨#[]⟩, .slice none 0 0, .slice none 0 0] h
 have HR := gh hR; have HW := gh hW; have HS0 := gh hst; clear hR hW hst h; obtain ⟨d,rfl⟩ : ∃ d2,d = d2 + 1 := ⟨d - 1,by omega⟩
 have HBEG := gh (fbegin_ok s p m deep g 0 W hm (by omega) hm1 HS0.o.rd)
 have HE : Hid (rdV s (d + 1) p m = .error 14) := gh (by unfold rdV; rw [if_neg (by omega),if_pos (by omega)])
 go_enter Tryz.func134,Tryz.ntmps134
 go_wp2_with fail
 rw [<- HW.o, <- HR.o]; refine HBEG.o.mono ?_; rintro e w1 ⟨rfl,ha1,ho1⟩; have HS1 := gh (HS0.o.read ha1 ho1); clear ha1 ho1 HBEG HW; have HB1 := gh (fbyte_torn s p ((m + 1 : Nat) : Int) g w1 hs (by omega) (by omega) HS1.o.rd)
 go_wp2_with fail
 refine HB1.o.mono ?_; rintro e w2 ⟨rfl,ha2,ho2⟩; have HS2 := gh (HS1.o.read ha2 ho2); clear ha2 ho2 HB1 HS1; obtain ⟨V,hV⟩ := gXe (w2.heap.size); obtain ⟨W2,hW2⟩ := gXe (w2.alloc (.cells #[.int .i64 0, .int .i64 0, .float .f64 0, .string ⟨#[]⟩, .slice none 0 0, .slice none 0 0] 37)); have hs3 := HS2.o.make [.int .i64 0, .int .i64 0, .float .f64 0, .string ⟨#[]⟩, .slice none 0 0, .slice none 0 0]; rw [show w2.alloc (.cells [.int .i64 0, .int .i64 0, .float .f64 0, .string ⟨#[]⟩, .slice none 0 0, .slice none 0 0].toArray 37) = W2 from hW2.symm, <- hV] at hs3
 have HS3 := gh hs3; have HW2 := gh hW2; have HV := gh hV; clear hs3 hW2 hV HS2
 go_upto_region 3 with fail
 rw [<- HW2.o, <- HV.o]; have c0 := HS3.o.cell 0; have ce := HS3.o.err; have hvl := HS3.o.vlt; simp only [gX1,gX2] at c0; have e0 := HS3.o.cell 0; have e1 := HS3.o.cell 1; have e2 := HS3.o.cell 2; have e3 := HS3.o.cell 3; have e4 := HS3.o.cell 4; have e5 := HS3.o.cell 5; simp only [gX1,gX2] at e0 e1 e2 e3 e4 e5; have r0 := HS3.o.res.cell 0; have f0 := HS3.o.res.frozen 0; have r1 := HS3.o.res.cell 1; have f1 := HS3.o.res.frozen 1; have r2 := HS3.o.res.cell 2; have f2 := HS3.o.res.frozen 2; have r3 := HS3.o.res.cell 3; have f3 := HS3.o.res.frozen 3; have r4 := HS3.o.res.cell 4; have f4 := HS3.o.res.frozen 4; have r5 := HS3.o.res.cell 5; have f5 := HS3.o.res.frozen 5; simp only [gX0,gX1,gX2] at r0 r1 r2 r3 r4 r5; obtain ⟨WF,hWF⟩ := gXe (((((((W2.setCell ⟨R, 0,none⟩ (.int .i64 0)).setCell ⟨R, 1,none⟩ (.int .i64 0)).setCell ⟨R, 2,none⟩ (.float .f64 0)).setCell ⟨R, 3,none⟩ (.string ⟨#[]⟩)).setCell ⟨R, 4,none⟩ (.slice none 0 0)).setCell ⟨R, 5,none⟩ (.slice none 0 0))); have hst := stored6' HS3.o.res (.int .i64 0) (.int .i64 0) (.float .f64 0) (.string ⟨#[]⟩) (.slice none 0 0) (.slice none 0 0); rw [<- hWF] at hst; have HST := gh hst; have HWF := gh hWF; have HRD := gh (Blk.grown HS3.o.rd hst.2 (by have := HS3.o.glt; simp; omega))
 have HON := gh (only_far HS3.o.only hst.2 (by rw [HS3.o.eq]; exact Nat.le_refl _))
 clear hWF hst
 go_wp2_with fail
 rw [<- HWF.o]; clear e0 r0 f0 e1 r1 f1 e2 r2 f2 e3 r3 f3 e4 r4 f4 e5 r5 f5; have e0 := HST.o.1.cell 0; have e1 := HST.o.1.cell 1; have e2 := HST.o.1.cell 2; have e3 := HST.o.1.cell 3; have e4 := HST.o.1.cell 4; have e5 := HST.o.1.cell 5; simp only [gX0,gX1,gX2] at e0 e1 e2 e3 e4 e5; refine bodyPost_ret (v := .agg #[.int .i64 0, .int .i64 0, .float .f64 0, .string ⟨#[]⟩, .slice none 0 0, .slice none 0 0]) (by simp [results,Tryz.results134,go_sem,e0,e1,e2,e3,e4,e5]) rfl ?_
 exact fleaf_end (R := R) (V := V) HRD.o HON.o (by unfold i64r; omega) (by unfold i64r; omega) (by omega) (by unfold strok; decide) hp (by omega) (.inr (.inl ⟨rfl,by decide,HE.o⟩))
theorem fV_low (s : ByteArray) (hs : s.size <= 100000) (d p m deep g : Nat) (w : World) (hd : deep + d = 13) (hp : p <= s.size) (hm : m <= 200) (hd12 : deep <= 12) (hm1 : m + 1 <= 200) (hin : p < s.size) (K : Nat) (hk : (byteAt s p).toNat = K) (hk1 : K = 0) (h : RAt w g s p 0 (m : Int)) :
  Calls Tryz.prog 134 #[.pointer (some ⟨g, 0,none⟩), .int .i64 deep] w fun e w' => FValD s d p m 0 g w e w' := by
 have hsf := run_store_flt; obtain ⟨R,hR⟩ := gXe (w.heap.size); obtain ⟨W,hW⟩ := gXe (w.alloc (.cells #[.int .i64 0, .int .i64 0, .float .f64 0, .string ⟨#[]⟩, .slice none 0 0, .slice none 0 0] 37)); have hst : RS1 37 [.int .i64 0, .int .i64 0, .float .f64 0, .string ⟨#[]⟩, .slice none 0 0, .slice none 0 0] w W g R s p 0 (m : Int) := by rw [hR,hW]; exact RS1.start 37 [.int .i64 0, .int .i64 0, .float .f64 0, .string ⟨#[]⟩, .slice none 0 0, .slice none 0 0] h
 have HR := gh hR; have HW := gh hW; have HS0 := gh hst; clear hR hW hst h; obtain ⟨d,rfl⟩ : ∃ d2,d = d2 + 1 := ⟨d - 1,by omega⟩
 have HBEG := gh (fbegin_ok s p m deep g 0 W hm (by omega) hm1 HS0.o.rd)
 have HE : Hid (rdV s (d + 1) p m = .error 5) := gh (by unfold rdV; rw [if_neg (by omega),if_neg (by omega),if_neg (by omega),if_neg (by omega),if_neg (by omega),if_neg (by omega),if_neg (by omega)])
 have hK8 : K < 256 := by rw [<- hk]; exact (byteAt s p).toNat_lt
 have i1 : decide ((K : Int) < 1) = true := by simp; omega
 clear hk1
 go_enter Tryz.func134,Tryz.ntmps134
 go_wp2_with fail
 rw [<- HW.o, <- HR.o]; refine HBEG.o.mono ?_; rintro e w1 ⟨rfl,ha1,ho1⟩; have HS1 := gh (HS0.o.read ha1 ho1); clear ha1 ho1 HBEG HW; have HB1 := gh (fbyte_k s p ((m + 1 : Nat) : Int) g K w1 hs hin HS1.o.rd hk)
 go_wp2_with fail
 refine HB1.o.mono ?_; rintro e w2 ⟨rfl,ha2,ho2⟩; have HS2 := gh (HS1.o.read ha2 ho2); clear ha2 ho2 HB1 HS1; obtain ⟨V,hV⟩ := gXe (w2.heap.size); obtain ⟨W2,hW2⟩ := gXe (w2.alloc (.cells #[.int .i64 K, .int .i64 0, .float .f64 0, .string ⟨#[]⟩, .slice none 0 0, .slice none 0 0] 37)); have hs3 := HS2.o.make [.int .i64 K, .int .i64 0, .float .f64 0, .string ⟨#[]⟩, .slice none 0 0, .slice none 0 0]; rw [show w2.alloc (.cells [.int .i64 K, .int .i64 0, .float .f64 0, .string ⟨#[]⟩, .slice none 0 0, .slice none 0 0].toArray 37) = W2 from hW2.symm, <- hV] at hs3
 have HS3 := gh hs3; have HW2 := gh hW2; have HV := gh hV; clear hs3 hW2 hV HS2
 go_upto_region 3 with fail
 rw [<- HW2.o, <- HV.o]; have c0 := HS3.o.cell 0; have ce := HS3.o.err; have hvl := HS3.o.vlt; simp only [gX1,gX2] at c0
 go_wp2_with fail
 refine (ffail_any 5 s (p + 1) ((m + 1 : Nat) : Int) g W2 HS3.o.rd).mono ?_; rintro e w3 ⟨rfl,ha3,ho3⟩; have HS4 := gh (HS3.o.read ha3 ho3); clear ha3 ho3 HS3 c0 ce; have ce := HS4.o.err; have e0 := HS4.o.cell 0; have e1 := HS4.o.cell 1; have e2 := HS4.o.cell 2; have e3 := HS4.o.cell 3; have e4 := HS4.o.cell 4; have e5 := HS4.o.cell 5; simp only [gX1,gX2] at e0 e1 e2 e3 e4 e5; have r0 := HS4.o.res.cell 0; have f0 := HS4.o.res.frozen 0; have r1 := HS4.o.res.cell 1; have f1 := HS4.o.res.frozen 1; have r2 := HS4.o.res.cell 2; have f2 := HS4.o.res.frozen 2; have r3 := HS4.o.res.cell 3; have f3 := HS4.o.res.frozen 3; have r4 := HS4.o.res.cell 4; have f4 := HS4.o.res.frozen 4; have r5 := HS4.o.res.cell 5; have f5 := HS4.o.res.frozen 5; simp only [gX0,gX1,gX2] at r0 r1 r2 r3 r4 r5; obtain ⟨WF,hWF⟩ := gXe (((((((w3.setCell ⟨R, 0,none⟩ (.int .i64 K)).setCell ⟨R, 1,none⟩ (.int .i64 0)).setCell ⟨R, 2,none⟩ (.float .f64 0)).setCell ⟨R, 3,none⟩ (.string ⟨#[]⟩)).setCell ⟨R, 4,none⟩ (.slice none 0 0)).setCell ⟨R, 5,none⟩ (.slice none 0 0))); have hst := stored6' HS4.o.res (.int .i64 K) (.int .i64 0) (.float .f64 0) (.string ⟨#[]⟩) (.slice none 0 0) (.slice none 0 0); rw [<- hWF] at hst; have HST := gh hst; have HWF := gh hWF; have HRD := gh (Blk.grown HS4.o.rd hst.2 (by have := HS4.o.glt; simp; omega))
 have HON := gh (only_far HS4.o.only hst.2 (by rw [HS4.o.eq]; exact Nat.le_refl _))
 clear hWF hst
 go_wp2_with fail
 rw [<- HWF.o]; clear e0 r0 f0 e1 r1 f1 e2 r2 f2 e3 r3 f3 e4 r4 f4 e5 r5 f5; have e0 := HST.o.1.cell 0; have e1 := HST.o.1.cell 1; have e2 := HST.o.1.cell 2; have e3 := HST.o.1.cell 3; have e4 := HST.o.1.cell 4; have e5 := HST.o.1.cell 5; simp only [gX0,gX1,gX2] at e0 e1 e2 e3 e4 e5; refine bodyPost_ret (v := .agg #[.int .i64 K, .int .i64 0, .float .f64 0, .string ⟨#[]⟩, .slice none 0 0, .slice none 0 0]) (by simp [results,Tryz.results134,go_sem,e0,e1,e2,e3,e4,e5]) rfl ?_
 exact fleaf_end (R := R) (V := V) HRD.o HON.o (by unfold i64r; omega) (by unfold i64r; omega) (by omega) (by unfold strok; decide) (by omega) (by omega) (.inr (.inl ⟨rfl,by decide,HE.o⟩))
theorem fV_high (s : ByteArray) (hs : s.size <= 100000) (d p m deep g : Nat) (w : World) (hd : deep + d = 13) (hp : p <= s.size) (hm : m <= 200) (hd12 : deep <= 12) (hm1 : m + 1 <= 200) (hin : p < s.size) (K : Nat) (hk : (byteAt s p).toNat = K) (hk1 : 6 < K) (h : RAt w g s p 0 (m : Int)) :
  Calls Tryz.prog 134 #[.pointer (some ⟨g, 0,none⟩), .int .i64 deep] w fun e w' => FValD s d p m 0 g w e w' := by
 have hsf := run_store_flt; obtain ⟨R,hR⟩ := gXe (w.heap.size); obtain ⟨W,hW⟩ := gXe (w.alloc (.cells #[.int .i64 0, .int .i64 0, .float .f64 0, .string ⟨#[]⟩, .slice none 0 0, .slice none 0 0] 37)); have hst : RS1 37 [.int .i64 0, .int .i64 0, .float .f64 0, .string ⟨#[]⟩, .slice none 0 0, .slice none 0 0] w W g R s p 0 (m : Int) := by rw [hR,hW]; exact RS1.start 37 [.int .i64 0, .int .i64 0, .float .f64 0, .string ⟨#[]⟩, .slice none 0 0, .slice none 0 0] h
 have HR := gh hR; have HW := gh hW; have HS0 := gh hst; clear hR hW hst h; obtain ⟨d,rfl⟩ : ∃ d2,d = d2 + 1 := ⟨d - 1,by omega⟩
 have HBEG := gh (fbegin_ok s p m deep g 0 W hm (by omega) hm1 HS0.o.rd)
 have HE : Hid (rdV s (d + 1) p m = .error 5) := gh (by unfold rdV; rw [if_neg (by omega),if_neg (by omega),if_neg (by omega),if_neg (by omega),if_neg (by omega),if_neg (by omega),if_neg (by omega)])
 have hK8 : K < 256 := by rw [<- hk]; exact (byteAt s p).toNat_lt
 have i1 : decide ((K : Int) < 1) = false := by simp; omega
 have i2 : decide ((6 : Int) < (K : Int)) = true := by simp; omega
 clear hk1
 go_enter Tryz.func134,Tryz.ntmps134
 go_wp2_with fail
 rw [<- HW.o, <- HR.o]; refine HBEG.o.mono ?_; rintro e w1 ⟨rfl,ha1,ho1⟩; have HS1 := gh (HS0.o.read ha1 ho1); clear ha1 ho1 HBEG HW; have HB1 := gh (fbyte_k s p ((m + 1 : Nat) : Int) g K w1 hs hin HS1.o.rd hk)
 go_wp2_with fail
 refine HB1.o.mono ?_; rintro e w2 ⟨rfl,ha2,ho2⟩; have HS2 := gh (HS1.o.read ha2 ho2); clear ha2 ho2 HB1 HS1; obtain ⟨V,hV⟩ := gXe (w2.heap.size); obtain ⟨W2,hW2⟩ := gXe (w2.alloc (.cells #[.int .i64 K, .int .i64 0, .float .f64 0, .string ⟨#[]⟩, .slice none 0 0, .slice none 0 0] 37)); have hs3 := HS2.o.make [.int .i64 K, .int .i64 0, .float .f64 0, .string ⟨#[]⟩, .slice none 0 0, .slice none 0 0]; rw [show w2.alloc (.cells [.int .i64 K, .int .i64 0, .float .f64 0, .string ⟨#[]⟩, .slice none 0 0, .slice none 0 0].toArray 37) = W2 from hW2.symm, <- hV] at hs3
 have HS3 := gh hs3; have HW2 := gh hW2; have HV := gh hV; clear hs3 hW2 hV HS2
 go_upto_region 3 with fail
 rw [<- HW2.o, <- HV.o]; have c0 := HS3.o.cell 0; have ce := HS3.o.err; have hvl := HS3.o.vlt; simp only [gX1,gX2] at c0
 go_wp2_with fail
 refine (ffail_any 5 s (p + 1) ((m + 1 : Nat) : Int) g W2 HS3.o.rd).mono ?_; rintro e w3 ⟨rfl,ha3,ho3⟩; have HS4 := gh (HS3.o.read ha3 ho3); clear ha3 ho3 HS3 c0 ce; have ce := HS4.o.err; have e0 := HS4.o.cell 0; have e1 := HS4.o.cell 1; have e2 := HS4.o.cell 2; have e3 := HS4.o.cell 3; have e4 := HS4.o.cell 4; have e5 := HS4.o.cell 5; simp only [gX1,gX2] at e0 e1 e2 e3 e4 e5; have r0 := HS4.o.res.cell 0; have f0 := HS4.o.res.frozen 0; have r1 := HS4.o.res.cell 1; have f1 := HS4.o.res.frozen 1; have r2 := HS4.o.res.cell 2; have f2 := HS4.o.res.frozen 2; have r3 := HS4.o.res.cell 3; have f3 := HS4.o.res.frozen 3; have r4 := HS4.o.res.cell 4; have f4 := HS4.o.res.frozen 4; have r5 := HS4.o.res.cell 5; have f5 := HS4.o.res.frozen 5; simp only [gX0,gX1,gX2] at r0 r1 r2 r3 r4 r5; obtain ⟨WF,hWF⟩ := gXe (((((((w3.setCell ⟨R, 0,none⟩ (.int .i64 K)).setCell ⟨R, 1,none⟩ (.int .i64 0)).setCell ⟨R, 2,none⟩ (.float .f64 0)).setCell ⟨R, 3,none⟩ (.string ⟨#[]⟩)).setCell ⟨R, 4,none⟩ (.slice none 0 0)).setCell ⟨R, 5,none⟩ (.slice none 0 0))); have hst := stored6' HS4.o.res (.int .i64 K) (.int .i64 0) (.float .f64 0) (.string ⟨#[]⟩) (.slice none 0 0) (.slice none 0 0); rw [<- hWF] at hst; have HST := gh hst; have HWF := gh hWF; have HRD := gh (Blk.grown HS4.o.rd hst.2 (by have := HS4.o.glt; simp; omega))
 have HON := gh (only_far HS4.o.only hst.2 (by rw [HS4.o.eq]; exact Nat.le_refl _))
 clear hWF hst
 go_wp2_with fail
 rw [<- HWF.o]; clear e0 r0 f0 e1 r1 f1 e2 r2 f2 e3 r3 f3 e4 r4 f4 e5 r5 f5; have e0 := HST.o.1.cell 0; have e1 := HST.o.1.cell 1; have e2 := HST.o.1.cell 2; have e3 := HST.o.1.cell 3; have e4 := HST.o.1.cell 4; have e5 := HST.o.1.cell 5; simp only [gX0,gX1,gX2] at e0 e1 e2 e3 e4 e5; refine bodyPost_ret (v := .agg #[.int .i64 K, .int .i64 0, .float .f64 0, .string ⟨#[]⟩, .slice none 0 0, .slice none 0 0]) (by simp [results,Tryz.results134,go_sem,e0,e1,e2,e3,e4,e5]) rfl ?_
 exact fleaf_end (R := R) (V := V) HRD.o HON.o (by unfold i64r; omega) (by unfold i64r; omega) (by omega) (by unfold strok; decide) (by omega) (by omega) (.inr (.inl ⟨rfl,by decide,HE.o⟩))
theorem fV_bool (s : ByteArray) (hs : s.size <= 100000) (d p m deep g : Nat) (w : World) (hd : deep + d = 13) (hp : p <= s.size) (hm : m <= 200) (hd12 : deep <= 12) (hm1 : m + 1 <= 200) (hin : p < s.size) (hk : (byteAt s p).toNat = 1) (h : RAt w g s p 0 (m : Int)) :
  Calls Tryz.prog 134 #[.pointer (some ⟨g, 0,none⟩), .int .i64 deep] w fun e w' => FValD s d p m 0 g w e w' := by
 have hsf := run_store_flt; obtain ⟨R,hR⟩ := gXe (w.heap.size); obtain ⟨W,hW⟩ := gXe (w.alloc (.cells #[.int .i64 0, .int .i64 0, .float .f64 0, .string ⟨#[]⟩, .slice none 0 0, .slice none 0 0] 37)); have hst : RS1 37 [.int .i64 0, .int .i64 0, .float .f64 0, .string ⟨#[]⟩, .slice none 0 0, .slice none 0 0] w W g R s p 0 (m : Int) := by rw [hR,hW]; exact RS1.start 37 [.int .i64 0, .int .i64 0, .float .f64 0, .string ⟨#[]⟩, .slice none 0 0, .slice none 0 0] h
 have HR := gh hR; have HW := gh hW; have HS0 := gh hst; clear hR hW hst h; obtain ⟨d,rfl⟩ : ∃ d2,d = d2 + 1 := ⟨d - 1,by omega⟩
 have HBEG := gh (fbegin_ok s p m deep g 0 W hm (by omega) hm1 HS0.o.rd)
 go_enter Tryz.func134,Tryz.ntmps134
 go_wp2_with fail
 rw [<- HW.o, <- HR.o]; refine HBEG.o.mono ?_; rintro e w1 ⟨rfl,ha1,ho1⟩; have HS1 := gh (HS0.o.read ha1 ho1); clear ha1 ho1 HBEG HW; have HB1 := gh (fbyte_k s p ((m + 1 : Nat) : Int) g 1 w1 hs hin HS1.o.rd hk)
 go_wp2_with fail
 refine HB1.o.mono ?_; rintro e w2 ⟨rfl,ha2,ho2⟩; have HS2 := gh (HS1.o.read ha2 ho2); clear ha2 ho2 HB1 HS1; obtain ⟨V,hV⟩ := gXe (w2.heap.size); obtain ⟨W2,hW2⟩ := gXe (w2.alloc (.cells #[.int .i64 1, .int .i64 0, .float .f64 0, .string ⟨#[]⟩, .slice none 0 0, .slice none 0 0] 37)); have hs3 := HS2.o.make [.int .i64 1, .int .i64 0, .float .f64 0, .string ⟨#[]⟩, .slice none 0 0, .slice none 0 0]; rw [show w2.alloc (.cells [.int .i64 1, .int .i64 0, .float .f64 0, .string ⟨#[]⟩, .slice none 0 0, .slice none 0 0].toArray 37) = W2 from hW2.symm, <- hV] at hs3
 have HS3 := gh hs3; have HW2 := gh hW2; have HV := gh hV; clear hs3 hW2 hV HS2
 go_upto_region 3 with fail
 rw [<- HW2.o, <- HV.o]; have c0 := HS3.o.cell 0; have ce := HS3.o.err; have hvl := HS3.o.vlt; simp only [gX1,gX2] at c0; have HB2 := gh (fbyte_any s (p + 1) ((m + 1 : Nat) : Int) g W2 hs (by omega) HS3.o.rd)
 go_wp2_with fail
 refine HB2.o.mono ?_; rintro e w3 ⟨ho3,c,q,k,rfl,hc8,ha3,hq,hfin⟩; have HS4 := gh (HS3.o.read ha3 ho3); have HFIN := gh hfin; clear ha3 ho3 HB2 HS3 c0 ce hvl hfin; have c1 := HS4.o.cell 1; have f1 := HS4.o.frozen 1; have hvl := HS4.o.vlt; simp only [gX1,gX2] at c1; obtain ⟨W4,hW4⟩ := gXe (w3.setCell ⟨V, 1,none⟩ (.int .i64 c)); have hs5 := HS4.o.set_ 1 (.int .i64 c); rw [<- hW4] at hs5; have HS5 := gh hs5; have HW4 := gh hW4; clear hs5 hW4
 go_upto_region 17 with fail
 rw [<- HW4.o]; clear c1 f1 hvl HS4; have c1 := HS5.o.cell 1; simp only [List.set_cons_zero,List.set_cons_succ,gX1,gX2] at c1
 by_cases hc1 : c <= 1
 ·have i1 : decide ((1 : Int) < (c : Int)) = false := by simp; omega
  clear c1; have c1 := HS5.o.cell 1; simp only [List.set_cons_zero,List.set_cons_succ,gX1,gX2] at c1; have HS6 : Hid (RS2 37 _ w W4 g R V s q k ((m + 1 : Nat) : Int) [.int .i64 1, .int .i64 c, .float .f64 0, .string ⟨#[]⟩, .slice none 0 0, .slice none 0 0]) := HS5; have e0 := HS6.o.cell 0; have e1 := HS6.o.cell 1; have e2 := HS6.o.cell 2; have e3 := HS6.o.cell 3; have e4 := HS6.o.cell 4; have e5 := HS6.o.cell 5; simp only [gX1,gX2] at e0 e1 e2 e3 e4 e5; have r0 := HS6.o.res.cell 0; have f0 := HS6.o.res.frozen 0; have r1 := HS6.o.res.cell 1; have f1 := HS6.o.res.frozen 1; have r2 := HS6.o.res.cell 2; have f2 := HS6.o.res.frozen 2; have r3 := HS6.o.res.cell 3; have f3 := HS6.o.res.frozen 3; have r4 := HS6.o.res.cell 4; have f4 := HS6.o.res.frozen 4; have r5 := HS6.o.res.cell 5; have f5 := HS6.o.res.frozen 5; simp only [gX0,gX1,gX2] at r0 r1 r2 r3 r4 r5; obtain ⟨WF,hWF⟩ := gXe (((((((W4.setCell ⟨R, 0,none⟩ (.int .i64 1)).setCell ⟨R, 1,none⟩ (.int .i64 c)).setCell ⟨R, 2,none⟩ (.float .f64 0)).setCell ⟨R, 3,none⟩ (.string ⟨#[]⟩)).setCell ⟨R, 4,none⟩ (.slice none 0 0)).setCell ⟨R, 5,none⟩ (.slice none 0 0))); have hst := stored6' HS6.o.res (.int .i64 1) (.int .i64 c) (.float .f64 0) (.string ⟨#[]⟩) (.slice none 0 0) (.slice none 0 0); rw [<- hWF] at hst; have HST := gh hst; have HWF := gh hWF; have HRD := gh (Blk.grown HS6.o.rd hst.2 (by have := HS6.o.glt; simp; omega))
  have HON := gh (only_far HS6.o.only hst.2 (by rw [HS6.o.eq]; exact Nat.le_refl _))
  clear hWF hst
  go_wp2_with fail
  rw [<- HWF.o]; clear e0 r0 f0 e1 r1 f1 e2 r2 f2 e3 r3 f3 e4 r4 f4 e5 r5 f5; have e0 := HST.o.1.cell 0; have e1 := HST.o.1.cell 1; have e2 := HST.o.1.cell 2; have e3 := HST.o.1.cell 3; have e4 := HST.o.1.cell 4; have e5 := HST.o.1.cell 5; simp only [gX0,gX1,gX2] at e0 e1 e2 e3 e4 e5; refine bodyPost_ret (v := .agg #[.int .i64 1, .int .i64 c, .float .f64 0, .string ⟨#[]⟩, .slice none 0 0, .slice none 0 0]) (by simp [results,Tryz.results134,go_sem,e0,e1,e2,e3,e4,e5]) rfl ?_
  refine fleaf_end (R := R) (V := V) HRD.o HON.o (by unfold i64r; omega) (by unfold i64r; omega) (by omega) (by unfold strok; decide) hq (by omega) ?_
  rcases HFIN.o with ⟨rfl,rfl,h1,h2⟩ | ⟨rfl,rfl,h1⟩
  ·exact .inl ⟨rfl,rfl,hm1,by unfold rdV; rw [if_neg (by omega),if_neg (by omega),if_pos hk,if_neg (by omega), <- h2,if_pos hc1]; rfl⟩
  ·exact .inr (.inl ⟨rfl,by decide,by unfold rdV; rw [if_neg (by omega),if_neg (by omega),if_pos hk,if_pos (by omega)]⟩)
 ·have i1 : decide ((1 : Int) < (c : Int)) = true := by simp; omega
  obtain ⟨hk0, hqe, h1, h2⟩ : k = 0 /\ q = p + 1 + 1 /\ p + 1 < s.size /\ c = (byteAt s (p + 1)).toNat := by
   rcases HFIN.o with h | ⟨_,h,_⟩
   ·exact h
   ·omega
  have HE : Hid (rdV s (d + 1) p m = .error 5) := gh (by unfold rdV; rw [if_neg (by omega),if_neg (by omega),if_pos hk,if_neg (by omega), <- h2,if_neg hc1])
  rw [hk0] at HS5; clear hk0 hqe h1 h2 HFIN
  go_wp2_with fail
  refine (ffail_any 5 s q ((m + 1 : Nat) : Int) g W4 HS5.o.rd).mono ?_; rintro e w5 ⟨rfl,ha5,ho5⟩; have HS6 : Hid (RS2 37 _ w w5 g R V s q 5 ((m + 1 : Nat) : Int) [.int .i64 1, .int .i64 c, .float .f64 0, .string ⟨#[]⟩, .slice none 0 0, .slice none 0 0]) := gh (HS5.o.read ha5 ho5); clear ha5 ho5 HS5 c1; have e0 := HS6.o.cell 0; have e1 := HS6.o.cell 1; have e2 := HS6.o.cell 2; have e3 := HS6.o.cell 3; have e4 := HS6.o.cell 4; have e5 := HS6.o.cell 5; simp only [gX1,gX2] at e0 e1 e2 e3 e4 e5; have r0 := HS6.o.res.cell 0; have f0 := HS6.o.res.frozen 0; have r1 := HS6.o.res.cell 1; have f1 := HS6.o.res.frozen 1; have r2 := HS6.o.res.cell 2; have f2 := HS6.o.res.frozen 2; have r3 := HS6.o.res.cell 3; have f3 := HS6.o.res.frozen 3; have r4 := HS6.o.res.cell 4; have f4 := HS6.o.res.frozen 4; have r5 := HS6.o.res.cell 5; have f5 := HS6.o.res.frozen 5; simp only [gX0,gX1,gX2] at r0 r1 r2 r3 r4 r5; obtain ⟨WF,hWF⟩ := gXe (((((((w5.setCell ⟨R, 0,none⟩ (.int .i64 1)).setCell ⟨R, 1,none⟩ (.int .i64 c)).setCell ⟨R, 2,none⟩ (.float .f64 0)).setCell ⟨R, 3,none⟩ (.string ⟨#[]⟩)).setCell ⟨R, 4,none⟩ (.slice none 0 0)).setCell ⟨R, 5,none⟩ (.slice none 0 0))); have hst := stored6' HS6.o.res (.int .i64 1) (.int .i64 c) (.float .f64 0) (.string ⟨#[]⟩) (.slice none 0 0) (.slice none 0 0); rw [<- hWF] at hst; have HST := gh hst; have HWF := gh hWF; have HRD := gh (Blk.grown HS6.o.rd hst.2 (by have := HS6.o.glt; simp; omega))
  have HON := gh (only_far HS6.o.only hst.2 (by rw [HS6.o.eq]; exact Nat.le_refl _))
  clear hWF hst
  go_wp2_with fail
  rw [<- HWF.o]; clear e0 r0 f0 e1 r1 f1 e2 r2 f2 e3 r3 f3 e4 r4 f4 e5 r5 f5; have e0 := HST.o.1.cell 0; have e1 := HST.o.1.cell 1; have e2 := HST.o.1.cell 2; have e3 := HST.o.1.cell 3; have e4 := HST.o.1.cell 4; have e5 := HST.o.1.cell 5; simp only [gX0,gX1,gX2] at e0 e1 e2 e3 e4 e5; refine bodyPost_ret (v := .agg #[.int .i64 1, .int .i64 c, .float .f64 0, .string ⟨#[]⟩, .slice none 0 0, .slice none 0 0]) (by simp [results,Tryz.results134,go_sem,e0,e1,e2,e3,e4,e5]) rfl ?_
  exact fleaf_end (R := R) (V := V) HRD.o HON.o (by unfold i64r; omega) (by unfold i64r; omega) (by omega) (by unfold strok; decide) hq (by omega) (.inr (.inl ⟨rfl,by decide,HE.o⟩))
theorem fV_int_bad (s : ByteArray) (hs : s.size <= 100000) (d p m deep g : Nat) (w : World) (hd : deep + d = 13) (hp : p <= s.size) (hm : m <= 200) (hd12 : deep <= 12) (hm1 : m + 1 <= 200) (hin : p < s.size) (hk : (byteAt s p).toNat = 2) (k : Int) (hu : readU s (p + 1) 0 0 = .error k) (h : RAt w g s p 0 (m : Int)) :
  Calls Tryz.prog 134 #[.pointer (some ⟨g, 0,none⟩), .int .i64 deep] w fun e w' => FValD s d p m 0 g w e w' := by
 have hsf := run_store_flt; obtain ⟨R,hR⟩ := gXe (w.heap.size); obtain ⟨W,hW⟩ := gXe (w.alloc (.cells #[.int .i64 0, .int .i64 0, .float .f64 0, .string ⟨#[]⟩, .slice none 0 0, .slice none 0 0] 37)); have hst : RS1 37 [.int .i64 0, .int .i64 0, .float .f64 0, .string ⟨#[]⟩, .slice none 0 0, .slice none 0 0] w W g R s p 0 (m : Int) := by rw [hR,hW]; exact RS1.start 37 [.int .i64 0, .int .i64 0, .float .f64 0, .string ⟨#[]⟩, .slice none 0 0, .slice none 0 0] h
 have HR := gh hR; have HW := gh hW; have HS0 := gh hst; clear hR hW hst h; obtain ⟨d,rfl⟩ : ∃ d2,d = d2 + 1 := ⟨d - 1,by omega⟩
 have HBEG := gh (fbegin_ok s p m deep g 0 W hm (by omega) hm1 HS0.o.rd)
 have HE : Hid (rdV s (d + 1) p m = .error k) := gh (by unfold rdV; rw [if_neg (by omega),if_neg (by omega),if_neg (by rw [hk]; decide),if_pos hk,hu])
 have HK : Hid (k ≠ 0) := gh (by rcases readU_err s (p + 1) 0 0 k hu with rfl | rfl <;> decide)
 go_enter Tryz.func134,Tryz.ntmps134
 go_wp2_with fail
 rw [<- HW.o, <- HR.o]; refine HBEG.o.mono ?_; rintro e w1 ⟨rfl,ha1,ho1⟩; have HS1 := gh (HS0.o.read ha1 ho1); clear ha1 ho1 HBEG HW; have HB1 := gh (fbyte_k s p ((m + 1 : Nat) : Int) g 2 w1 hs hin HS1.o.rd hk)
 go_wp2_with fail
 refine HB1.o.mono ?_; rintro e w2 ⟨rfl,ha2,ho2⟩; have HS2 := gh (HS1.o.read ha2 ho2); clear ha2 ho2 HB1 HS1; obtain ⟨V,hV⟩ := gXe (w2.heap.size); obtain ⟨W2,hW2⟩ := gXe (w2.alloc (.cells #[.int .i64 2, .int .i64 0, .float .f64 0, .string ⟨#[]⟩, .slice none 0 0, .slice none 0 0] 37)); have hs3 := HS2.o.make [.int .i64 2, .int .i64 0, .float .f64 0, .string ⟨#[]⟩, .slice none 0 0, .slice none 0 0]; rw [show w2.alloc (.cells [.int .i64 2, .int .i64 0, .float .f64 0, .string ⟨#[]⟩, .slice none 0 0, .slice none 0 0].toArray 37) = W2 from hW2.symm, <- hV] at hs3
 have HS3 := gh hs3; have HW2 := gh hW2; have HV := gh hV; clear hs3 hW2 hV HS2
 go_upto_region 3 with fail
 rw [<- HW2.o, <- HV.o]; have c0 := HS3.o.cell 0; have ce := HS3.o.err; have hvl := HS3.o.vlt; simp only [gX1,gX2] at c0; have HB2 := gh (fint_any s (p + 1) ((m + 1 : Nat) : Int) g W2 hs (by omega) HS3.o.rd)
 rw [hu] at HB2
 go_wp2_with fail
 refine HB2.o.mono ?_; rintro e w3 ⟨ho3,rfl,q,hq,ha3⟩; have HS4 := gh (HS3.o.read ha3 ho3); clear ha3 ho3 HB2 HS3 c0 ce hvl hu; have c1 := HS4.o.cell 1; have f1 := HS4.o.frozen 1; have hvl := HS4.o.vlt; simp only [gX1,gX2] at c1; obtain ⟨W4,hW4⟩ := gXe (w3.setCell ⟨V, 1,none⟩ (.int .i64 0)); have hs5 := HS4.o.set_ 1 (.int .i64 0); rw [<- hW4] at hs5; have HS5 := gh hs5; have HW4 := gh hW4; clear hs5 hW4
 go_upto_region 32 with fail
 rw [<- HW4.o]; clear c1 f1 hvl HS4; have HS6 : Hid (RS2 37 _ w W4 g R V s q k ((m + 1 : Nat) : Int) [.int .i64 2, .int .i64 0, .float .f64 0, .string ⟨#[]⟩, .slice none 0 0, .slice none 0 0]) := HS5; have e0 := HS6.o.cell 0; have e1 := HS6.o.cell 1; have e2 := HS6.o.cell 2; have e3 := HS6.o.cell 3; have e4 := HS6.o.cell 4; have e5 := HS6.o.cell 5; simp only [gX1,gX2] at e0 e1 e2 e3 e4 e5; have r0 := HS6.o.res.cell 0; have f0 := HS6.o.res.frozen 0; have r1 := HS6.o.res.cell 1; have f1 := HS6.o.res.frozen 1; have r2 := HS6.o.res.cell 2; have f2 := HS6.o.res.frozen 2; have r3 := HS6.o.res.cell 3; have f3 := HS6.o.res.frozen 3; have r4 := HS6.o.res.cell 4; have f4 := HS6.o.res.frozen 4; have r5 := HS6.o.res.cell 5; have f5 := HS6.o.res.frozen 5; simp only [gX0,gX1,gX2] at r0 r1 r2 r3 r4 r5; obtain ⟨WF,hWF⟩ := gXe (((((((W4.setCell ⟨R, 0,none⟩ (.int .i64 2)).setCell ⟨R, 1,none⟩ (.int .i64 0)).setCell ⟨R, 2,none⟩ (.float .f64 0)).setCell ⟨R, 3,none⟩ (.string ⟨#[]⟩)).setCell ⟨R, 4,none⟩ (.slice none 0 0)).setCell ⟨R, 5,none⟩ (.slice none 0 0))); have hst := stored6' HS6.o.res (.int .i64 2) (.int .i64 0) (.float .f64 0) (.string ⟨#[]⟩) (.slice none 0 0) (.slice none 0 0); rw [<- hWF] at hst; have HST := gh hst; have HWF := gh hWF; have HRD := gh (Blk.grown HS6.o.rd hst.2 (by have := HS6.o.glt; simp; omega))
 have HON := gh (only_far HS6.o.only hst.2 (by rw [HS6.o.eq]; exact Nat.le_refl _))
 clear hWF hst
 go_wp2_with fail
 rw [<- HWF.o]; clear e0 r0 f0 e1 r1 f1 e2 r2 f2 e3 r3 f3 e4 r4 f4 e5 r5 f5; have e0 := HST.o.1.cell 0; have e1 := HST.o.1.cell 1; have e2 := HST.o.1.cell 2; have e3 := HST.o.1.cell 3; have e4 := HST.o.1.cell 4; have e5 := HST.o.1.cell 5; simp only [gX0,gX1,gX2] at e0 e1 e2 e3 e4 e5; refine bodyPost_ret (v := .agg #[.int .i64 2, .int .i64 0, .float .f64 0, .string ⟨#[]⟩, .slice none 0 0, .slice none 0 0]) (by simp [results,Tryz.results134,go_sem,e0,e1,e2,e3,e4,e5]) rfl ?_
 exact fleaf_end (R := R) (V := V) HRD.o HON.o (by unfold i64r; omega) (by unfold i64r; omega) (by omega) (by unfold strok; decide) hq (by omega) (.inr (.inl ⟨rfl,HK.o,HE.o⟩))
theorem fV_int_ok (s : ByteArray) (hs : s.size <= 100000) (d p m deep g : Nat) (w : World) (hd : deep + d = 13) (hp : p <= s.size) (hm : m <= 200) (hd12 : deep <= 12) (hm1 : m + 1 <= 200) (hin : p < s.size) (hk : (byteAt s p).toNat = 2) (n q : Nat) (hu : readU s (p + 1) 0 0 = .ok (n, q)) (h : RAt w g s p 0 (m : Int)) :
  Calls Tryz.prog 134 #[.pointer (some ⟨g, 0,none⟩), .int .i64 deep] w fun e w' => FValD s d p m 0 g w e w' := by
 have hsf := run_store_flt; obtain ⟨R,hR⟩ := gXe (w.heap.size); obtain ⟨W,hW⟩ := gXe (w.alloc (.cells #[.int .i64 0, .int .i64 0, .float .f64 0, .string ⟨#[]⟩, .slice none 0 0, .slice none 0 0] 37)); have hst : RS1 37 [.int .i64 0, .int .i64 0, .float .f64 0, .string ⟨#[]⟩, .slice none 0 0, .slice none 0 0] w W g R s p 0 (m : Int) := by rw [hR,hW]; exact RS1.start 37 [.int .i64 0, .int .i64 0, .float .f64 0, .string ⟨#[]⟩, .slice none 0 0, .slice none 0 0] h
 have HR := gh hR; have HW := gh hW; have HS0 := gh hst; clear hR hW hst h; obtain ⟨d,rfl⟩ : ∃ d2,d = d2 + 1 := ⟨d - 1,by omega⟩
 have HBEG := gh (fbegin_ok s p m deep g 0 W hm (by omega) hm1 HS0.o.rd)
 have HE : Hid (rdV s (d + 1) p m = .ok (Val.leafN 2 (unzig n),q,m + 1)) := gh (by unfold rdV; rw [if_neg (by omega),if_neg (by omega),if_neg (by rw [hk]; decide),if_pos hk,hu])
 have hul := readU_lt s (p + 1) 0 0 (by decide) (by omega) n q hu
 have hul1 := hul.1; have hq := hul.2.2
 go_enter Tryz.func134,Tryz.ntmps134
 go_wp2_with fail
 rw [<- HW.o, <- HR.o]; refine HBEG.o.mono ?_; rintro e w1 ⟨rfl,ha1,ho1⟩; have HS1 := gh (HS0.o.read ha1 ho1); clear ha1 ho1 HBEG HW; have HB1 := gh (fbyte_k s p ((m + 1 : Nat) : Int) g 2 w1 hs hin HS1.o.rd hk)
 go_wp2_with fail
 refine HB1.o.mono ?_; rintro e w2 ⟨rfl,ha2,ho2⟩; have HS2 := gh (HS1.o.read ha2 ho2); clear ha2 ho2 HB1 HS1; obtain ⟨V,hV⟩ := gXe (w2.heap.size); obtain ⟨W2,hW2⟩ := gXe (w2.alloc (.cells #[.int .i64 2, .int .i64 0, .float .f64 0, .string ⟨#[]⟩, .slice none 0 0, .slice none 0 0] 37)); have hs3 := HS2.o.make [.int .i64 2, .int .i64 0, .float .f64 0, .string ⟨#[]⟩, .slice none 0 0, .slice none 0 0]; rw [show w2.alloc (.cells [.int .i64 2, .int .i64 0, .float .f64 0, .string ⟨#[]⟩, .slice none 0 0, .slice none 0 0].toArray 37) = W2 from hW2.symm, <- hV] at hs3
 have HS3 := gh hs3; have HW2 := gh hW2; have HV := gh hV; clear hs3 hW2 hV HS2
 go_upto_region 3 with fail
 rw [<- HW2.o, <- HV.o]; have c0 := HS3.o.cell 0; have ce := HS3.o.err; have hvl := HS3.o.vlt; simp only [gX1,gX2] at c0; have HB2 := gh (fint_any s (p + 1) ((m + 1 : Nat) : Int) g W2 hs (by omega) HS3.o.rd)
 rw [hu] at HB2
 go_wp2_with fail
 refine HB2.o.mono ?_; rintro e w3 ⟨ho3,rfl,ha3⟩; have HS4 := gh (HS3.o.read ha3 ho3); clear ha3 ho3 HB2 HS3 c0 ce hvl hu; have c1 := HS4.o.cell 1; have f1 := HS4.o.frozen 1; have hvl := HS4.o.vlt; simp only [gX1,gX2] at c1; obtain ⟨W4,hW4⟩ := gXe (w3.setCell ⟨V, 1,none⟩ (.int .i64 (unzig n))); have hs5 := HS4.o.set_ 1 (.int .i64 (unzig n)); rw [<- hW4] at hs5; have HS5 := gh hs5; have HW4 := gh hW4; clear hs5 hW4
 go_upto_region 32 with fail
 rw [<- HW4.o]; clear c1 f1 hvl HS4; have HS6 : Hid (RS2 37 _ w W4 g R V s q 0 ((m + 1 : Nat) : Int) [.int .i64 2, .int .i64 (unzig n), .float .f64 0, .string ⟨#[]⟩, .slice none 0 0, .slice none 0 0]) := HS5; have e0 := HS6.o.cell 0; have e1 := HS6.o.cell 1; have e2 := HS6.o.cell 2; have e3 := HS6.o.cell 3; have e4 := HS6.o.cell 4; have e5 := HS6.o.cell 5; simp only [gX1,gX2] at e0 e1 e2 e3 e4 e5; have r0 := HS6.o.res.cell 0; have f0 := HS6.o.res.frozen 0; have r1 := HS6.o.res.cell 1; have f1 := HS6.o.res.frozen 1; have r2 := HS6.o.res.cell 2; have f2 := HS6.o.res.frozen 2; have r3 := HS6.o.res.cell 3; have f3 := HS6.o.res.frozen 3; have r4 := HS6.o.res.cell 4; have f4 := HS6.o.res.frozen 4; have r5 := HS6.o.res.cell 5; have f5 := HS6.o.res.frozen 5; simp only [gX0,gX1,gX2] at r0 r1 r2 r3 r4 r5; obtain ⟨WF,hWF⟩ := gXe (((((((W4.setCell ⟨R, 0,none⟩ (.int .i64 2)).setCell ⟨R, 1,none⟩ (.int .i64 (unzig n))).setCell ⟨R, 2,none⟩ (.float .f64 0)).setCell ⟨R, 3,none⟩ (.string ⟨#[]⟩)).setCell ⟨R, 4,none⟩ (.slice none 0 0)).setCell ⟨R, 5,none⟩ (.slice none 0 0))); have hst := stored6' HS6.o.res (.int .i64 2) (.int .i64 (unzig n)) (.float .f64 0) (.string ⟨#[]⟩) (.slice none 0 0) (.slice none 0 0); rw [<- hWF] at hst; have HST := gh hst; have HWF := gh hWF; have HRD := gh (Blk.grown HS6.o.rd hst.2 (by have := HS6.o.glt; simp; omega))
 have HON := gh (only_far HS6.o.only hst.2 (by rw [HS6.o.eq]; exact Nat.le_refl _))
 clear hWF hst
 go_wp2_with fail
 rw [<- HWF.o]; clear e0 r0 f0 e1 r1 f1 e2 r2 f2 e3 r3 f3 e4 r4 f4 e5 r5 f5; have e0 := HST.o.1.cell 0; have e1 := HST.o.1.cell 1; have e2 := HST.o.1.cell 2; have e3 := HST.o.1.cell 3; have e4 := HST.o.1.cell 4; have e5 := HST.o.1.cell 5; simp only [gX0,gX1,gX2] at e0 e1 e2 e3 e4 e5; refine bodyPost_ret (v := .agg #[.int .i64 2, .int .i64 (unzig n), .float .f64 0, .string ⟨#[]⟩, .slice none 0 0, .slice none 0 0]) (by simp [results,Tryz.results134,go_sem,e0,e1,e2,e3,e4,e5]) rfl ?_
 exact fleaf_end (R := R) (V := V) HRD.o HON.o (by unfold i64r; omega) (by unfold i64r unzig; split <;> omega) (by omega) (by unfold strok; decide) hq (by omega) (.inl ⟨rfl,rfl,hm1,HE.o⟩)
theorem fV_str (s : ByteArray) (hs : s.size <= 100000) (d p m deep g : Nat) (w : World) (hd : deep + d = 13) (hp : p <= s.size) (hm : m <= 200) (hd12 : deep <= 12) (hm1 : m + 1 <= 200) (hin : p < s.size) (hk : (byteAt s p).toNat = 4) (h : RAt w g s p 0 (m : Int)) :
  Calls Tryz.prog 134 #[.pointer (some ⟨g, 0,none⟩), .int .i64 deep] w fun e w' => FValD s d p m 0 g w e w' := by
 have hsf := run_store_flt; obtain ⟨R,hR⟩ := gXe (w.heap.size); obtain ⟨W,hW⟩ := gXe (w.alloc (.cells #[.int .i64 0, .int .i64 0, .float .f64 0, .string ⟨#[]⟩, .slice none 0 0, .slice none 0 0] 37)); have hst : RS1 37 [.int .i64 0, .int .i64 0, .float .f64 0, .string ⟨#[]⟩, .slice none 0 0, .slice none 0 0] w W g R s p 0 (m : Int) := by rw [hR,hW]; exact RS1.start 37 [.int .i64 0, .int .i64 0, .float .f64 0, .string ⟨#[]⟩, .slice none 0 0, .slice none 0 0] h
 have HR := gh hR; have HW := gh hW; have HS0 := gh hst; clear hR hW hst h; obtain ⟨d,rfl⟩ : ∃ d2,d = d2 + 1 := ⟨d - 1,by omega⟩
 have HBEG := gh (fbegin_ok s p m deep g 0 W hm (by omega) hm1 HS0.o.rd)
 go_enter Tryz.func134,Tryz.ntmps134
 go_wp2_with fail
 rw [<- HW.o, <- HR.o]; refine HBEG.o.mono ?_; rintro e w1 ⟨rfl,ha1,ho1⟩; have HS1 := gh (HS0.o.read ha1 ho1); clear ha1 ho1 HBEG HW; have HB1 := gh (fbyte_k s p ((m + 1 : Nat) : Int) g 4 w1 hs hin HS1.o.rd hk)
 go_wp2_with fail
 refine HB1.o.mono ?_; rintro e w2 ⟨rfl,ha2,ho2⟩; have HS2 := gh (HS1.o.read ha2 ho2); clear ha2 ho2 HB1 HS1; obtain ⟨V,hV⟩ := gXe (w2.heap.size); obtain ⟨W2,hW2⟩ := gXe (w2.alloc (.cells #[.int .i64 4, .int .i64 0, .float .f64 0, .string ⟨#[]⟩, .slice none 0 0, .slice none 0 0] 37)); have hs3 := HS2.o.make [.int .i64 4, .int .i64 0, .float .f64 0, .string ⟨#[]⟩, .slice none 0 0, .slice none 0 0]; rw [show w2.alloc (.cells [.int .i64 4, .int .i64 0, .float .f64 0, .string ⟨#[]⟩, .slice none 0 0, .slice none 0 0].toArray 37) = W2 from hW2.symm, <- hV] at hs3
 have HS3 := gh hs3; have HW2 := gh hW2; have HV := gh hV; clear hs3 hW2 hV HS2
 go_upto_region 3 with fail
 rw [<- HW2.o, <- HV.o]; have c0 := HS3.o.cell 0; have ce := HS3.o.err; have hvl := HS3.o.vlt; simp only [gX1,gX2] at c0; have HB2 := gh (fstrD_any s (p + 1) ((m + 1 : Nat) : Int) 200 g W2 hs (by omega) (by omega) (by omega) HS3.o.rd)
 go_wp2_with fail
 refine HB2.o.mono ?_; rintro e w3 ⟨ho3,t,q,k,rfl,ha3,hq,htz,hfin⟩; have HS4 := gh (HS3.o.read ha3 ho3); have HFIN := gh hfin; clear ha3 ho3 HB2 HS3 c0 ce hvl hfin; have c1 := HS4.o.cell 3; have f1 := HS4.o.frozen 3; have hvl := HS4.o.vlt; simp only [gX1,gX2] at c1; obtain ⟨W4,hW4⟩ := gXe (w3.setCell ⟨V, 3,none⟩ (.string t)); have hs5 := HS4.o.set_ 3 (.string t); rw [<- hW4] at hs5; have HS5 := gh hs5; have HW4 := gh hW4; clear hs5 hW4
 go_upto_region 32 with fail
 rw [<- HW4.o]; clear c1 f1 hvl HS4; have HS6 : Hid (RS2 37 _ w W4 g R V s q k ((m + 1 : Nat) : Int) [.int .i64 4, .int .i64 0, .float .f64 0, .string t, .slice none 0 0, .slice none 0 0]) := HS5; have e0 := HS6.o.cell 0; have e1 := HS6.o.cell 1; have e2 := HS6.o.cell 2; have e3 := HS6.o.cell 3; have e4 := HS6.o.cell 4; have e5 := HS6.o.cell 5; simp only [gX1,gX2] at e0 e1 e2 e3 e4 e5; have r0 := HS6.o.res.cell 0; have f0 := HS6.o.res.frozen 0; have r1 := HS6.o.res.cell 1; have f1 := HS6.o.res.frozen 1; have r2 := HS6.o.res.cell 2; have f2 := HS6.o.res.frozen 2; have r3 := HS6.o.res.cell 3; have f3 := HS6.o.res.frozen 3; have r4 := HS6.o.res.cell 4; have f4 := HS6.o.res.frozen 4; have r5 := HS6.o.res.cell 5; have f5 := HS6.o.res.frozen 5; simp only [gX0,gX1,gX2] at r0 r1 r2 r3 r4 r5; obtain ⟨WF,hWF⟩ := gXe (((((((W4.setCell ⟨R, 0,none⟩ (.int .i64 4)).setCell ⟨R, 1,none⟩ (.int .i64 0)).setCell ⟨R, 2,none⟩ (.float .f64 0)).setCell ⟨R, 3,none⟩ (.string t)).setCell ⟨R, 4,none⟩ (.slice none 0 0)).setCell ⟨R, 5,none⟩ (.slice none 0 0))); have hst := stored6' HS6.o.res (.int .i64 4) (.int .i64 0) (.float .f64 0) (.string t) (.slice none 0 0) (.slice none 0 0); rw [<- hWF] at hst; have HST := gh hst; have HWF := gh hWF; have HRD := gh (Blk.grown HS6.o.rd hst.2 (by have := HS6.o.glt; simp; omega))
 have HON := gh (only_far HS6.o.only hst.2 (by rw [HS6.o.eq]; exact Nat.le_refl _))
 clear hWF hst
 go_wp2_with fail
 rw [<- HWF.o]; clear e0 r0 f0 e1 r1 f1 e2 r2 f2 e3 r3 f3 e4 r4 f4 e5 r5 f5; have e0 := HST.o.1.cell 0; have e1 := HST.o.1.cell 1; have e2 := HST.o.1.cell 2; have e3 := HST.o.1.cell 3; have e4 := HST.o.1.cell 4; have e5 := HST.o.1.cell 5; simp only [gX0,gX1,gX2] at e0 e1 e2 e3 e4 e5; refine bodyPost_ret (v := .agg #[.int .i64 4, .int .i64 0, .float .f64 0, .string t, .slice none 0 0, .slice none 0 0]) (by simp [results,Tryz.results134,go_sem,e0,e1,e2,e3,e4,e5]) rfl ?_
 refine fleaf_end (R := R) (V := V) HRD.o HON.o (by unfold i64r; omega) (by unfold i64r; omega) (by omega) (by unfold strok; omega) hq (by omega) ?_
 rcases HFIN.o with ⟨rfl,hu⟩ | ⟨hk0,hu⟩
 ·exact .inl ⟨rfl,rfl,hm1,by unfold rdV; rw [if_neg (by omega),if_neg (by omega),if_neg (by rw [hk]; decide),if_neg (by rw [hk]; decide),if_neg (by rw [hk]; decide),if_pos hk,hu]; rfl⟩
 ·exact .inr (.inl ⟨rfl,hk0,by unfold rdV; rw [if_neg (by omega),if_neg (by omega),if_neg (by rw [hk]; decide),if_neg (by rw [hk]; decide),if_neg (by rw [hk]; decide),if_pos hk,hu]⟩)
end Go.Proofs.YtaamihdibpioaaaGreat
namespace Go.Proofs.YtaamihdibpioaaaGreat
open Go.RowKit
theorem fV_list (s : ByteArray) (hs : s.size <= 100000) (d p m deep g : Nat) (w : World) (hd : deep + d = 12) (hp : p <= s.size) (hm : m <= 200) (hm1 : m + 1 <= 200) (hin : p < s.size) (hk : (byteAt s p).toNat = 5) (ih : ∀ (k : Int) (p m g : Nat) (w : World), p <= s.size -> m <= 200 -> RAt w g s p k (m : Int) -> Calls Tryz.prog 134 #[.pointer (some ⟨g, 0, none⟩), .int .i64 ((deep : Int) + 1)] w fun e w' => FValD s d p m k g w e w') (h : RAt w g s p 0 (m : Int)) :
  Calls Tryz.prog 134 #[.pointer (some ⟨g, 0,none⟩), .int .i64 deep] w fun e w' => FValD s (d + 1) p m 0 g w e w' := by
 have hdw : IntKind.i64.wrap ((deep : Int) + 1) = (deep : Int) + 1 := IntWalk.i64_in _ (by omega)
 obtain ⟨i0,hi0,hz0,hz1,hz2⟩ := info_parts val_facts; obtain ⟨i1,hi1,hy0,hy1,hy2⟩ := info_parts str_facts; have HIH := gh ih; clear ih; have hsf := run_store_flt; obtain ⟨R,hR⟩ := gXe (w.heap.size); obtain ⟨W,hW⟩ := gXe (w.alloc (.cells #[.int .i64 0, .int .i64 0, .float .f64 0, .string ⟨#[]⟩, .slice none 0 0, .slice none 0 0] 37)); have hst : RS1 37 [.int .i64 0, .int .i64 0, .float .f64 0, .string ⟨#[]⟩, .slice none 0 0, .slice none 0 0] w W g R s p 0 (m : Int) := by rw [hR,hW]; exact RS1.start 37 [.int .i64 0, .int .i64 0, .float .f64 0, .string ⟨#[]⟩, .slice none 0 0, .slice none 0 0] h
 have HR := gh hR; have HW := gh hW; have HS0 := gh hst; clear hR hW hst h; have HBEG := gh (fbegin_ok s p m deep g 0 W hm (by omega) hm1 HS0.o.rd)
 have hkt : (decide ((byteAt s p).toNat = 6)) = false := by rw [hk]; rfl
 have hed : rdV s (d + 1) p m = (match readM s (p + 1) with
   | .error k => .error k
   | .ok (n, q) => match rdL s (rdV s d) false n q (m + 1) with
    | .error k => .error k
    | .ok (ns,vs,q2,m2) => .ok (Val.node 5 ns vs,q2,m2)) := by
  unfold rdV; rw [if_neg (by omega),if_neg (by omega),if_neg (by rw [hk]; decide),if_neg (by rw [hk]; decide),if_neg (by rw [hk]; decide),if_neg (by rw [hk]; decide),if_pos (by rw [hk]; decide)]
  simp only [hkt]; rw [hk]
  rfl
 have HED := gh hed; clear hed hkt
 go_enter Tryz.func134,Tryz.ntmps134
 go_wp2_with fail
 rw [<- HW.o, <- HR.o]; refine HBEG.o.mono ?_; rintro e w1 ⟨rfl,ha1,ho1⟩; have HS1 := gh (HS0.o.read ha1 ho1); clear ha1 ho1 HBEG HW; have HB1 := gh (fbyte_k s p ((m + 1 : Nat) : Int) g 5 w1 hs hin HS1.o.rd hk)
 go_wp2_with fail
 refine HB1.o.mono ?_; rintro e w2 ⟨rfl,ha2,ho2⟩; have HS2 := gh (HS1.o.read ha2 ho2); clear ha2 ho2 HB1 HS1; obtain ⟨V,hV⟩ := gXe (w2.heap.size); obtain ⟨W2,hW2⟩ := gXe (w2.alloc (.cells #[.int .i64 5, .int .i64 0, .float .f64 0, .string ⟨#[]⟩, .slice none 0 0, .slice none 0 0] 37)); have hs3 := HS2.o.make [.int .i64 5, .int .i64 0, .float .f64 0, .string ⟨#[]⟩, .slice none 0 0, .slice none 0 0]; rw [show w2.alloc (.cells [.int .i64 5, .int .i64 0, .float .f64 0, .string ⟨#[]⟩, .slice none 0 0, .slice none 0 0].toArray 37) = W2 from hW2.symm, <- hV] at hs3
 have HS3 := gh hs3; have HW2 := gh hW2; have HV := gh hV; clear hs3 hW2 hV HS2
 go_upto_region 3 with fail
 rw [<- HW2.o, <- HV.o]; have c0 := HS3.o.cell 0; have ce := HS3.o.err; have hvl := HS3.o.vlt; simp only [gX1,gX2] at c0; have HR := gh (fmany_any s (p + 1) ((m + 1 : Nat) : Int) g W2 hs (by omega) HS3.o.rd)
 go_wp2_with fail
 refine HR.o.mono ?_; rintro e w3 ⟨ho3,n,q0,k0,rfl,ha3,hq0,hn200,hfin⟩; have HS4 := gh (HS3.o.read ha3 ho3); have HQ0 := gh hq0
 have HST0 : Hid ((k0 = 0 /\ Come s (rdV s d) false n q0 (m + 1) [] [] 0 q0 (m + 1)) \/ (k0 ≠ 0 /\ rdV s (d + 1) p m = .error k0)) := gh (by
  rcases hfin with ⟨h1,h2⟩ | ⟨h1,h2,h3⟩
  ·exact .inl ⟨h1,come_start⟩
  ·exact .inr ⟨h1,by rw [HED.o,h3]⟩)
 have HRM := gh hfin; clear ha3 ho3 HR HS3 c0 ce hvl hfin hq0; have ce := HS4.o.err
 go_wp2_with fail
 go_loopw [9] (fun iv wr => ∃ (i : Nat) (ns : List ByteArray) (us : List Val) (an ax : Option Addr) (cn cx q m' : Nat) (k : Int), iv = .int .i64 i /\ i <= n /\ q <= s.size /\ m' <= 201 /\ us.length <= n /\ ns.length <= i /\ Hid (∀ t, t ∈ ns -> t.size <= 30) /\ Hid ((k = 0 /\ k0 = 0 /\ Come s (rdV s d) false n q0 (m + 1) ns (us.map Val.erase) i q m' /\ m' <= 200) \/ (k ≠ 0 /\ rdV s (d + 1) p m = .error k)) /\ Hid (us.length = i) /\
  Hid (RS2 37 [.int .i64 0, .int .i64 0, .float .f64 0, .string ⟨#[]⟩, .slice none 0 0, .slice none 0 0] w wr g R V s q k (m' : Int) [.int .i64 5, .int .i64 0, .float .f64 0, .string ⟨#[]⟩, .slice an ns.length cn, .slice ax us.length cx]) /\ Hid (Gath valE 37 (V + 1) wr ns us (.slice an ns.length cn) (.slice ax us.length cx))) (fun iv _ => n - (intOf iv).toNat)
 case atStart => exact ⟨0, [], [],none,none, 0, 0,q0,m + 1,k0,rfl,by omega,HQ0.o,by omega,by simp,by simp,gh (fun t ht => by simp at ht),gh (by rcases HST0.o with ⟨h1,h2⟩ | h; exact .inl ⟨by first | rfl | exact h1,by first | rfl | exact h1,h2,hm1⟩; exact .inr h),gh rfl,HS4,gh (gath_start _)⟩
 case round =>
  obtain ⟨i,ns,us,an,ax,cn,cx,q,m',k,rfl,hi,hqs,hm',hul,hnl,HTZ,HREL,HUL,HRS,HG⟩ := hrel; clear HS4 ce
  try clear c0 hvl
  have c0 := HRS.o.cell 0; have ce := HRS.o.err; have cn0 := HRS.o.cell 4; have cx0 := HRS.o.cell 5; have hvl := HRS.o.vlt; simp only [gX1,gX2] at c0 cn0 cx0
  by_cases hgo : i < n /\ k = 0
  ·obtain ⟨hlt, hk0⟩ := hgo
   subst hk0
   obtain ⟨hcm, hm200⟩ : Come s (rdV s d) false n q0 (m + 1) ns (us.map Val.erase) i q m' /\ m' <= 200 := by
    rcases HREL.o with ⟨_,_,h⟩ | ⟨h,_⟩
    ·exact h
    ·exact absurd rfl h
   have HKZ : Hid (k0 = 0) := gh (by
    rcases HREL.o with ⟨_,h,_⟩ | ⟨h,_⟩
    ·exact h
    ·exact absurd rfl h)
   have HCM := gh hcm; have j1 : decide ((i : Int) < (n : Int)) = true := by simp; omega
   have j2 : decide (i < n) = true := by simp; omega
   clear hcm HREL
   have HRMX : Hid (readM s (p + 1) = .ok (n, q0)) := gh (by
    rcases HRM.o with ⟨_,h⟩ | ⟨_,h,_⟩
    ·exact h
    ·omega)
   have HC := gh (fun (W : World) (h : RAt W g s q 0 (m' : Int)) => HIH.o 0 q m' g W (by omega) hm200 h)
   have HZS := gh (fun b (hb : (Value.slice an ns.length cn).ownBlock = some b) => HG.o.nlt hb)
   have HZX := gh (fun b (hb : (Value.slice ax us.length cx).ownBlock = some b) => HG.o.xlt hb)
   go_wp2_with fail
   have hvB : V + 1 <= wr.heap.size := HRS.o.vlt
   go_region_law (first
    | (refine step_append_any (w := w6.alloc (.cells #[.int .i64 u.k, .int .i64 u.n, .float .f64 u.f, .string u.s, .slice a4 u.ns.length b4, .slice a5 u.xs.length b5] 37)) rfl (.tmp 66) (.tmp 71) 35 rfl (V + 1) 37 i0 (.agg #[.int .i64 0, .int .i64 0, .float .f64 0, .string ByteArray.empty, .slice none 0 0, .slice none 0 0]) 6 88 Tryz.underlying35 hi0 hz0 hz1 hz2 rfl (by decide) (.slice ax us.length cx) us.length (valE.row us) rfl HOWN6.o (w6.heap.size + 1) (some ⟨w6.heap.size, 0, none⟩) 1 1 u.cells rfl HRED.o (valE.one u) (by unfold maxLen; omega) (by omega) (by simp; omega) ?_;
       intro v' w8 hown' hgrow hor;
       have hg8 := Gath.item (HG6.o.alloc (.cells #[.int .i64 u.k, .int .i64 u.n, .float .f64 u.f, .string u.s, .slice a4 u.ns.length b4, .slice a5 u.xs.length b5] 37)) (by simp; omega) (HUI.o.below ((Below.refl _ w6).alloc (Nat.le_refl _) (.cells #[.int .i64 u.k, .int .i64 u.n, .float .f64 u.f, .string u.s, .slice a4 u.ns.length b4, .slice a5 u.xs.length b5] 37))) HUS.o hvB HZS.o HZX.o hown' hgrow hor;
       have hr8 := HR6.o.grow hgrow (fun k hk => HG6.o.xge hk);
       obtain ⟨ax',cx',rfl⟩ := own_form hown';
       have c8 := hr8.cell 5; have f8 := hr8.frozen 5; have v8 := hr8.vlt;
       simp only [gX1,gX2] at c8;
       have HG8 := gh hg8; have HR8 := gh hr8;
       clear hg8 hr8 hown' hgrow hor)
    | (go_simp; go_at_call 134; refine (HC.o _ (HRS.o.rd.drew)).mono ?_; rintro e w6 ⟨ho6, u, q2, m2, k2, rfl, hui, hus, ha6, hq2, hm2, hfin⟩;
       obtain ⟨a4,b4,k4⟩ := hui.nslice;
       obtain ⟨a5,b5,k5⟩ := hui.xslice;
       unfold Val.agg;
       rw [k4,k5];
       have ho6' := ((Only.refl wr g).drew).trans ho6;
       have hz6 := ho6'.size;
       have hr6 := HRS.o.read ha6 ho6';
       have hg6 := HG.o.only ho6' (by have := hr6.lt; omega);
       have c6 := hr6.cell 5; have v6 := hr6.vlt;
       simp only [gX1,gX2] at c6;
       have hred : Reads (w6.alloc (.cells #[.int .i64 u.k, .int .i64 u.n, .float .f64 u.f, .string u.s, .slice a4 u.ns.length b4, .slice a5 u.xs.length b5] 37)) (w6.heap.size + 1) 6 (some ⟨w6.heap.size, 0, none⟩) 1 u.cells := by
        unfold Val.cells; rw [k4,k5]; exact reads_row w6 _ 37;
       have hown6 := hg6.items.alloc (.cells #[.int .i64 u.k, .int .i64 u.n, .float .f64 u.f, .string u.s, .slice a4 u.ns.length b4, .slice a5 u.xs.length b5] 37);
       have HR6 := gh hr6; have HG6 := gh hg6; have HRED := gh hred; have HOWN6 := gh hown6; have HUI := gh hui; have HUS := gh hus; have HFIN := gh hfin;
       clear ha6 ho6 ho6' hr6 hg6 hred hown6 hui hus k4 k5 hfin))
   all_goals
    have HRS9 := gh (HR8.o.set_ 5 (.slice ax' (us.length + 1) cx')); have HG9 := gh (HG8.o.set_ (p := ⟨V, 5,none⟩) (by simp) (.slice ax' (us.length + 1) cx'))
    go_wp2
    go_roundw
    case rel =>
     refine ⟨i + 1,ns,us ++ [u],an,ax',cn,cx',q2,m2,k2,by go_num,by omega,hq2,hm2,by simp [HUL.o]; omega,by omega,HTZ,gh ?_,gh (by simp [HUL.o]),by simpa using HRS9,by simpa using HG9⟩
     rw [List.map_append,List.map_cons,List.map_nil]
     rcases HFIN.o with ⟨h1,h2,h3,h4⟩ | ⟨h1,h2,h3⟩ | ⟨h1,h2⟩
     ·exact .inl ⟨h2,HKZ.o,HCM.o.next0 hlt h4,h3⟩
     ·exact .inr ⟨h2,by rw [HED.o,HRMX.o]; simp only; rw [HCM.o.item_bad0 hlt h3]⟩
     ·exact absurd rfl h1
    case measure => simp [intOf]; omega
  ·have hout : (i < n /\ k ≠ 0) \/ i = n := by
    by_cases h : i < n
    ·exact .inl ⟨h,fun hk => hgo ⟨h,hk⟩⟩
    ·exact .inr (by omega)
   have HRES : Hid ((k = 0 /\ i = n /\ m' <= 200 /\ rdV s (d + 1) p m = .ok (Val.node 5 ns (us.map Val.erase), q, m')) \/ (k ≠ 0 /\ rdV s (d + 1) p m = .error k)) := gh (by
    rcases HREL.o with ⟨h1,hz,h2,h3⟩ | h
    ·have hn : i = n := by
      rcases hout with ⟨_,h⟩ | h
      ·exact absurd h1 h
      ·exact h
     subst hn; refine .inl ⟨h1,rfl,h3,?_⟩
     rcases HRM.o with ⟨_,h⟩ | ⟨h,_,_⟩
     ·rw [HED.o,h]; simp only; rw [h2.done]
     ·exact absurd hz h
    ·exact .inr h)
   clear hgo HREL
   rcases hout with ⟨hlt,hk0⟩ | rfl
   ·have j1 : decide ((i : Int) < (n : Int)) = true := by simp; omega
    have j2 : decide (i < n) = true := by simp; omega
    have j3 : (k == 0) = false := by simpa using hk0
    clear hk0; clear c0 cn0 cx0; have e0 := HRS.o.cell 0; have e1 := HRS.o.cell 1; have e2 := HRS.o.cell 2; have e3 := HRS.o.cell 3; have e4 := HRS.o.cell 4; have e5 := HRS.o.cell 5; simp only [gX1,gX2] at e0 e1 e2 e3 e4 e5; have r0 := HRS.o.res.cell 0; have f0 := HRS.o.res.frozen 0; have r1 := HRS.o.res.cell 1; have f1 := HRS.o.res.frozen 1; have r2 := HRS.o.res.cell 2; have f2 := HRS.o.res.frozen 2; have r3 := HRS.o.res.cell 3; have f3 := HRS.o.res.frozen 3; have r4 := HRS.o.res.cell 4; have f4 := HRS.o.res.frozen 4; have r5 := HRS.o.res.cell 5; have f5 := HRS.o.res.frozen 5; simp only [gX0,gX1,gX2] at r0 r1 r2 r3 r4 r5; obtain ⟨WF,hWF⟩ := gXe (((((((wr.setCell ⟨R, 0,none⟩ (.int .i64 5)).setCell ⟨R, 1,none⟩ (.int .i64 0)).setCell ⟨R, 2,none⟩ (.float .f64 0)).setCell ⟨R, 3,none⟩ (.string ⟨#[]⟩)).setCell ⟨R, 4,none⟩ (.slice an ns.length cn)).setCell ⟨R, 5,none⟩ (.slice ax us.length cx))); have hst := stored6' HRS.o.res (.int .i64 5) (.int .i64 0) (.float .f64 0) (.string ⟨#[]⟩) (.slice an ns.length cn) (.slice ax us.length cx); rw [<- hWF] at hst; have HST := gh hst; have HWF := gh hWF; have HRD := gh (Blk.grown HRS.o.rd hst.2 (by have := HRS.o.glt; simp; omega))
    have HON := gh (only_far HRS.o.only hst.2 (by rw [HRS.o.eq]; exact Nat.le_refl _))
    clear hWF hst
    go_wp2_with fail
    rw [<- HWF.o]; clear e0 r0 f0 e1 r1 f1 e2 r2 f2 e3 r3 f3 e4 r4 f4 e5 r5 f5; have e0 := HST.o.1.cell 0; have e1 := HST.o.1.cell 1; have e2 := HST.o.1.cell 2; have e3 := HST.o.1.cell 3; have e4 := HST.o.1.cell 4; have e5 := HST.o.1.cell 5; simp only [gX0,gX1,gX2] at e0 e1 e2 e3 e4 e5; refine bodyPost_ret (v := .agg #[.int .i64 5, .int .i64 0, .float .f64 0, .string ⟨#[]⟩, .slice an ns.length cn, .slice ax us.length cx]) (by simp [results,Tryz.results134,go_sem,e0,e1,e2,e3,e4,e5]) rfl ?_
    refine fnode_end (R := R) (V := V) HRD.o HON.o (by rw [HWF.o]; exact HG.o.only (stored6' HRS.o.res _ _ _ _ _ _).2 (by have := HRS.o.rlt; omega)) (by rw [<- HR.o]; exact Nat.le_of_lt HRS.o.rlt) (by unfold i64r; omega) (by omega) (by omega) HTZ.o hqs hm' ?_
    rcases HRES.o with ⟨h1,_,h3,h4⟩ | h
    ·exact .inl ⟨rfl,h1,h3,h4⟩
    ·exact .inr (.inl ⟨rfl,h⟩)
   ·have j1 : decide ((i : Int) < (i : Int)) = false := by simp
    clear c0 cn0 cx0; have e0 := HRS.o.cell 0; have e1 := HRS.o.cell 1; have e2 := HRS.o.cell 2; have e3 := HRS.o.cell 3; have e4 := HRS.o.cell 4; have e5 := HRS.o.cell 5; simp only [gX1,gX2] at e0 e1 e2 e3 e4 e5; have r0 := HRS.o.res.cell 0; have f0 := HRS.o.res.frozen 0; have r1 := HRS.o.res.cell 1; have f1 := HRS.o.res.frozen 1; have r2 := HRS.o.res.cell 2; have f2 := HRS.o.res.frozen 2; have r3 := HRS.o.res.cell 3; have f3 := HRS.o.res.frozen 3; have r4 := HRS.o.res.cell 4; have f4 := HRS.o.res.frozen 4; have r5 := HRS.o.res.cell 5; have f5 := HRS.o.res.frozen 5; simp only [gX0,gX1,gX2] at r0 r1 r2 r3 r4 r5; obtain ⟨WF,hWF⟩ := gXe (((((((wr.setCell ⟨R, 0,none⟩ (.int .i64 5)).setCell ⟨R, 1,none⟩ (.int .i64 0)).setCell ⟨R, 2,none⟩ (.float .f64 0)).setCell ⟨R, 3,none⟩ (.string ⟨#[]⟩)).setCell ⟨R, 4,none⟩ (.slice an ns.length cn)).setCell ⟨R, 5,none⟩ (.slice ax us.length cx))); have hst := stored6' HRS.o.res (.int .i64 5) (.int .i64 0) (.float .f64 0) (.string ⟨#[]⟩) (.slice an ns.length cn) (.slice ax us.length cx); rw [<- hWF] at hst; have HST := gh hst; have HWF := gh hWF; have HRD := gh (Blk.grown HRS.o.rd hst.2 (by have := HRS.o.glt; simp; omega))
    have HON := gh (only_far HRS.o.only hst.2 (by rw [HRS.o.eq]; exact Nat.le_refl _))
    clear hWF hst
    go_wp2_with fail
    rw [<- HWF.o]; clear e0 r0 f0 e1 r1 f1 e2 r2 f2 e3 r3 f3 e4 r4 f4 e5 r5 f5; have e0 := HST.o.1.cell 0; have e1 := HST.o.1.cell 1; have e2 := HST.o.1.cell 2; have e3 := HST.o.1.cell 3; have e4 := HST.o.1.cell 4; have e5 := HST.o.1.cell 5; simp only [gX0,gX1,gX2] at e0 e1 e2 e3 e4 e5; refine bodyPost_ret (v := .agg #[.int .i64 5, .int .i64 0, .float .f64 0, .string ⟨#[]⟩, .slice an ns.length cn, .slice ax us.length cx]) (by simp [results,Tryz.results134,go_sem,e0,e1,e2,e3,e4,e5]) rfl ?_
    refine fnode_end (R := R) (V := V) HRD.o HON.o (by rw [HWF.o]; exact HG.o.only (stored6' HRS.o.res _ _ _ _ _ _).2 (by have := HRS.o.rlt; omega)) (by rw [<- HR.o]; exact Nat.le_of_lt HRS.o.rlt) (by unfold i64r; omega) (by omega) (by omega) HTZ.o hqs hm' ?_
    rcases HRES.o with ⟨h1,_,h3,h4⟩ | h
    ·exact .inl ⟨rfl,h1,h3,h4⟩
    ·exact .inr (.inl ⟨rfl,h⟩)
theorem fV_rec (s : ByteArray) (hs : s.size <= 100000) (d p m deep g : Nat) (w : World) (hd : deep + d = 12) (hp : p <= s.size) (hm : m <= 200) (hm1 : m + 1 <= 200) (hin : p < s.size) (hk : (byteAt s p).toNat = 6) (ih : ∀ (k : Int) (p m g : Nat) (w : World), p <= s.size -> m <= 200 -> RAt w g s p k (m : Int) -> Calls Tryz.prog 134 #[.pointer (some ⟨g, 0, none⟩), .int .i64 ((deep : Int) + 1)] w fun e w' => FValD s d p m k g w e w') (h : RAt w g s p 0 (m : Int)) :
  Calls Tryz.prog 134 #[.pointer (some ⟨g, 0,none⟩), .int .i64 deep] w fun e w' => FValD s (d + 1) p m 0 g w e w' := by
 have hdw : IntKind.i64.wrap ((deep : Int) + 1) = (deep : Int) + 1 := IntWalk.i64_in _ (by omega)
 obtain ⟨i0,hi0,hz0,hz1,hz2⟩ := info_parts val_facts; obtain ⟨i1,hi1,hy0,hy1,hy2⟩ := info_parts str_facts; have HIH := gh ih; clear ih; have hsf := run_store_flt; obtain ⟨R,hR⟩ := gXe (w.heap.size); obtain ⟨W,hW⟩ := gXe (w.alloc (.cells #[.int .i64 0, .int .i64 0, .float .f64 0, .string ⟨#[]⟩, .slice none 0 0, .slice none 0 0] 37)); have hst : RS1 37 [.int .i64 0, .int .i64 0, .float .f64 0, .string ⟨#[]⟩, .slice none 0 0, .slice none 0 0] w W g R s p 0 (m : Int) := by rw [hR,hW]; exact RS1.start 37 [.int .i64 0, .int .i64 0, .float .f64 0, .string ⟨#[]⟩, .slice none 0 0, .slice none 0 0] h
 have HR := gh hR; have HW := gh hW; have HS0 := gh hst; clear hR hW hst h; have HBEG := gh (fbegin_ok s p m deep g 0 W hm (by omega) hm1 HS0.o.rd)
 have hkt : (decide ((byteAt s p).toNat = 6)) = true := by rw [hk]; rfl
 have hed : rdV s (d + 1) p m = (match readM s (p + 1) with
   | .error k => .error k
   | .ok (n, q) => match rdL s (rdV s d) true n q (m + 1) with
    | .error k => .error k
    | .ok (ns,vs,q2,m2) => .ok (Val.node 6 ns vs,q2,m2)) := by
  unfold rdV; rw [if_neg (by omega),if_neg (by omega),if_neg (by rw [hk]; decide),if_neg (by rw [hk]; decide),if_neg (by rw [hk]; decide),if_neg (by rw [hk]; decide),if_pos (by rw [hk]; decide)]
  simp only [hkt]; rw [hk]
  rfl
 have HED := gh hed; clear hed hkt
 go_enter Tryz.func134,Tryz.ntmps134
 go_wp2_with fail
 rw [<- HW.o, <- HR.o]; refine HBEG.o.mono ?_; rintro e w1 ⟨rfl,ha1,ho1⟩; have HS1 := gh (HS0.o.read ha1 ho1); clear ha1 ho1 HBEG HW; have HB1 := gh (fbyte_k s p ((m + 1 : Nat) : Int) g 6 w1 hs hin HS1.o.rd hk)
 go_wp2_with fail
 refine HB1.o.mono ?_; rintro e w2 ⟨rfl,ha2,ho2⟩; have HS2 := gh (HS1.o.read ha2 ho2); clear ha2 ho2 HB1 HS1; obtain ⟨V,hV⟩ := gXe (w2.heap.size); obtain ⟨W2,hW2⟩ := gXe (w2.alloc (.cells #[.int .i64 6, .int .i64 0, .float .f64 0, .string ⟨#[]⟩, .slice none 0 0, .slice none 0 0] 37)); have hs3 := HS2.o.make [.int .i64 6, .int .i64 0, .float .f64 0, .string ⟨#[]⟩, .slice none 0 0, .slice none 0 0]; rw [show w2.alloc (.cells [.int .i64 6, .int .i64 0, .float .f64 0, .string ⟨#[]⟩, .slice none 0 0, .slice none 0 0].toArray 37) = W2 from hW2.symm, <- hV] at hs3
 have HS3 := gh hs3; have HW2 := gh hW2; have HV := gh hV; clear hs3 hW2 hV HS2
 go_upto_region 3 with fail
 rw [<- HW2.o, <- HV.o]; have c0 := HS3.o.cell 0; have ce := HS3.o.err; have hvl := HS3.o.vlt; simp only [gX1,gX2] at c0; have HR := gh (fmany_any s (p + 1) ((m + 1 : Nat) : Int) g W2 hs (by omega) HS3.o.rd)
 go_wp2_with fail
 refine HR.o.mono ?_; rintro e w3 ⟨ho3,n,q0,k0,rfl,ha3,hq0,hn200,hfin⟩; have HS4 := gh (HS3.o.read ha3 ho3); have HQ0 := gh hq0
 have HST0 : Hid ((k0 = 0 /\ Come s (rdV s d) true n q0 (m + 1) [] [] 0 q0 (m + 1)) \/ (k0 ≠ 0 /\ rdV s (d + 1) p m = .error k0)) := gh (by
  rcases hfin with ⟨h1,h2⟩ | ⟨h1,h2,h3⟩
  ·exact .inl ⟨h1,come_start⟩
  ·exact .inr ⟨h1,by rw [HED.o,h3]⟩)
 have HRM := gh hfin; clear ha3 ho3 HR HS3 c0 ce hvl hfin hq0; have ce := HS4.o.err
 go_wp2_with fail
 go_loopw [9] (fun iv wr => ∃ (i : Nat) (ns : List ByteArray) (us : List Val) (an ax : Option Addr) (cn cx q m' : Nat) (k : Int), iv = .int .i64 i /\ i <= n /\ q <= s.size /\ m' <= 201 /\ us.length <= n /\ ns.length <= i /\ Hid (∀ t, t ∈ ns -> t.size <= 30) /\ Hid ((k = 0 /\ k0 = 0 /\ Come s (rdV s d) true n q0 (m + 1) ns (us.map Val.erase) i q m' /\ m' <= 200) \/ (k ≠ 0 /\ rdV s (d + 1) p m = .error k)) /\ Hid (us.length = i) /\
  Hid (RS2 37 [.int .i64 0, .int .i64 0, .float .f64 0, .string ⟨#[]⟩, .slice none 0 0, .slice none 0 0] w wr g R V s q k (m' : Int) [.int .i64 6, .int .i64 0, .float .f64 0, .string ⟨#[]⟩, .slice an ns.length cn, .slice ax us.length cx]) /\ Hid (Gath valE 37 (V + 1) wr ns us (.slice an ns.length cn) (.slice ax us.length cx))) (fun iv _ => n - (intOf iv).toNat)
 case atStart => exact ⟨0, [], [],none,none, 0, 0,q0,m + 1,k0,rfl,by omega,HQ0.o,by omega,by simp,by simp,gh (fun t ht => by simp at ht),gh (by rcases HST0.o with ⟨h1,h2⟩ | h; exact .inl ⟨by first | rfl | exact h1,by first | rfl | exact h1,h2,hm1⟩; exact .inr h),gh rfl,HS4,gh (gath_start _)⟩
 case round =>
  obtain ⟨i,ns,us,an,ax,cn,cx,q,m',k,rfl,hi,hqs,hm',hul,hnl,HTZ,HREL,HUL,HRS,HG⟩ := hrel; clear HS4 ce
  try clear c0 hvl
  have c0 := HRS.o.cell 0; have ce := HRS.o.err; have cn0 := HRS.o.cell 4; have cx0 := HRS.o.cell 5; have hvl := HRS.o.vlt; simp only [gX1,gX2] at c0 cn0 cx0
  by_cases hgo : i < n /\ k = 0
  ·obtain ⟨hlt, hk0⟩ := hgo
   subst hk0
   obtain ⟨hcm, hm200⟩ : Come s (rdV s d) true n q0 (m + 1) ns (us.map Val.erase) i q m' /\ m' <= 200 := by
    rcases HREL.o with ⟨_,_,h⟩ | ⟨h,_⟩
    ·exact h
    ·exact absurd rfl h
   have HKZ : Hid (k0 = 0) := gh (by
    rcases HREL.o with ⟨_,h,_⟩ | ⟨h,_⟩
    ·exact h
    ·exact absurd rfl h)
   have HCM := gh hcm; have j1 : decide ((i : Int) < (n : Int)) = true := by simp; omega
   have j2 : decide (i < n) = true := by simp; omega
   clear hcm HREL
   have HRMX : Hid (readM s (p + 1) = .ok (n, q0)) := gh (by
    rcases HRM.o with ⟨_,h⟩ | ⟨_,h,_⟩
    ·exact h
    ·omega)
   have HC := gh (fun (W : World) (h : RAt W g s q 0 (m' : Int)) => fstrD_any s q (m' : Int) 30 g W hs hqs (by omega) (by omega) h)
   go_upto_region 13 with fail
   go_cut [9] (fun iv wx => iv = .int .i64 i /\ ∃ (ns2 : List ByteArray) (an2 : Option Addr) (cn2 q1 : Nat) (k1 : Int) (t : ByteArray),q1 <= s.size /\ Hid (t.size <= 30) /\ Hid (ns2 = ns ++ [t]) /\ Hid ((k1 = 0 /\ readS s q 30 = .ok (t,q1)) \/ (k1 ≠ 0 /\ readS s q 30 = .error k1)) /\ Hid (RS2 37 [.int .i64 0, .int .i64 0, .float .f64 0, .string ⟨#[]⟩, .slice none 0 0, .slice none 0 0] w wx g R V s q1 k1 (m' : Int) [.int .i64 6, .int .i64 0, .float .f64 0, .string ⟨#[]⟩, .slice an2 ns2.length cn2, .slice ax us.length cx]) /\ Hid (Gath valE 37 (V + 1) wx ns2 us (.slice an2 ns2.length cn2) (.slice ax us.length cx)))
   case first =>
    have hvB : V + 1 <= wr.heap.size := HRS.o.vlt
    go_region_law (first
     | (refine step_append_any (w := w6.alloc (.cells #[.string t] 9)) rfl (.tmp 59) (.tmp 62) 34 rfl (V + 1) 9 i1 (.string ByteArray.empty) 1 16 Tryz.underlying34 hi1 hy0 hy1 hy2 rfl (by decide) (.slice an ns.length cn) ns.length (ns.map Value.string) rfl HOWN6.o (w6.heap.size + 1) (some ⟨w6.heap.size, 0, none⟩) 1 1 [.string t] rfl HRED.o (one_str t) (by unfold maxLen; omega) (by omega) (by simp; omega) ?_;
        intro v' w8 hown' hgrow hor;
        have hg8 := Gath.name (HG6.o.alloc (.cells #[.string t] 9)) (by simp; omega) hown' hgrow hor;
        have hr8 := HR6.o.grow hgrow (fun k hk => HG6.o.nge hk);
        obtain ⟨an',cn',rfl⟩ := own_form hown';
        have c8 := hr8.cell 4; have f8 := hr8.frozen 4; have v8 := hr8.vlt;
        simp only [gX1,gX2] at c8;
        have HG8 := gh hg8; have HR8 := gh hr8;
        clear hg8 hr8 hown' hgrow hor)
     | (go_simp; go_at_call 163; refine (HC.o _ (HRS.o.rd.drew)).mono ?_; rintro e w6 ⟨ho6, t, q1, k1, rfl, ha6, hq1, htz, hfin⟩;
        have ho6' := ((Only.refl wr g).drew).trans ho6;
        have hz6 := ho6'.size;
        have hr6 := HRS.o.read ha6 ho6';
        have hg6 := HG.o.only ho6' (by have := hr6.lt; omega);
        have c6 := hr6.cell 4; have v6 := hr6.vlt;
        simp only [gX1,gX2] at c6;
        have hred := reads_one w6 (.string t) 9;
        have hown6 := hg6.names.alloc (.cells #[.string t] 9);
        have HR6 := gh hr6; have HG6 := gh hg6; have HRED := gh hred; have HOWN6 := gh hown6; have HFIN := gh hfin;
        clear ha6 ho6 ho6' hr6 hg6 hred hown6 hfin))
    all_goals
     have HRS9 := gh (HR8.o.set_ 4 (.slice an' (ns.length + 1) cn')); have HG9 := gh (HG8.o.set_ (p := ⟨V, 4,none⟩) (by simp) (.slice an' (ns.length + 1) cn'))
     go_wp2
     go_meet
     exact ⟨rfl,ns ++ [t],an',cn',q1,k1,t,hq1,gh (by omega),gh rfl,HFIN,by simpa using HRS9,by simpa using HG9⟩
   case rest =>
   obtain ⟨rfl,ns2,an2,cn2,q1,k1,t,hq1,HT,HN2,HSN,HRS2,HG2⟩ := hcut; have hn2 : ns2.length <= i + 1 := by rw [HN2.o]; simp; omega
   have HTZ2 : Hid (∀ t, t ∈ ns2 -> t.size <= 30) := gh (by
    rw [HN2.o]; intro t' ht'
    rcases List.mem_append.1 ht' with h | h
    ·exact HTZ.o t' h
    ·obtain rfl : t' = t := by simpa using h
     exact HT.o)
   clear HRS HG c0 ce cn0 cx0 hvl HC; have HRS := HRS2; have HG := HG2; clear HRS2 HG2; have c0 := HRS.o.cell 0; have ce := HRS.o.err; have cn0 := HRS.o.cell 4; have cx0 := HRS.o.cell 5; have hvl := HRS.o.vlt; simp only [gX1,gX2] at c0 cn0 cx0; have HC := gh (fun (W : World) (h : RAt W g s q1 k1 (m' : Int)) => HIH.o k1 q1 m' g W (by omega) hm200 h)
   have HZS := gh (fun b (hb : (Value.slice an2 ns2.length cn2).ownBlock = some b) => HG.o.nlt hb)
   have HZX := gh (fun b (hb : (Value.slice ax us.length cx).ownBlock = some b) => HG.o.xlt hb)
   go_wp2_with fail
   have hvB : V + 1 <= wc.heap.size := HRS.o.vlt
   go_region_law (first
    | (refine step_append_any (w := w6.alloc (.cells #[.int .i64 u.k, .int .i64 u.n, .float .f64 u.f, .string u.s, .slice a4 u.ns.length b4, .slice a5 u.xs.length b5] 37)) rfl (.tmp 66) (.tmp 71) 35 rfl (V + 1) 37 i0 (.agg #[.int .i64 0, .int .i64 0, .float .f64 0, .string ByteArray.empty, .slice none 0 0, .slice none 0 0]) 6 88 Tryz.underlying35 hi0 hz0 hz1 hz2 rfl (by decide) (.slice ax us.length cx) us.length (valE.row us) rfl HOWN6.o (w6.heap.size + 1) (some ⟨w6.heap.size, 0, none⟩) 1 1 u.cells rfl HRED.o (valE.one u) (by unfold maxLen; omega) (by omega) (by simp; omega) ?_;
       intro v' w8 hown' hgrow hor;
       have hg8 := Gath.item (HG6.o.alloc (.cells #[.int .i64 u.k, .int .i64 u.n, .float .f64 u.f, .string u.s, .slice a4 u.ns.length b4, .slice a5 u.xs.length b5] 37)) (by simp; omega) (HUI.o.below ((Below.refl _ w6).alloc (Nat.le_refl _) (.cells #[.int .i64 u.k, .int .i64 u.n, .float .f64 u.f, .string u.s, .slice a4 u.ns.length b4, .slice a5 u.xs.length b5] 37))) HUS.o hvB HZS.o HZX.o hown' hgrow hor;
       have hr8 := HR6.o.grow hgrow (fun k hk => HG6.o.xge hk);
       obtain ⟨ax',cx',rfl⟩ := own_form hown';
       have c8 := hr8.cell 5; have f8 := hr8.frozen 5; have v8 := hr8.vlt;
       simp only [gX1,gX2] at c8;
       have HG8 := gh hg8; have HR8 := gh hr8;
       clear hg8 hr8 hown' hgrow hor)
    | (go_simp; go_at_call 134; refine (HC.o _ (HRS.o.rd.drew)).mono ?_; rintro e w6 ⟨ho6, u, q2, m2, k2, rfl, hui, hus, ha6, hq2, hm2, hfin⟩;
       obtain ⟨a4,b4,k4⟩ := hui.nslice;
       obtain ⟨a5,b5,k5⟩ := hui.xslice;
       unfold Val.agg;
       rw [k4,k5];
       have ho6' := ((Only.refl wc g).drew).trans ho6;
       have hz6 := ho6'.size;
       have hr6 := HRS.o.read ha6 ho6';
       have hg6 := HG.o.only ho6' (by have := hr6.lt; omega);
       have c6 := hr6.cell 5; have v6 := hr6.vlt;
       simp only [gX1,gX2] at c6;
       have hred : Reads (w6.alloc (.cells #[.int .i64 u.k, .int .i64 u.n, .float .f64 u.f, .string u.s, .slice a4 u.ns.length b4, .slice a5 u.xs.length b5] 37)) (w6.heap.size + 1) 6 (some ⟨w6.heap.size, 0, none⟩) 1 u.cells := by
        unfold Val.cells; rw [k4,k5]; exact reads_row w6 _ 37;
       have hown6 := hg6.items.alloc (.cells #[.int .i64 u.k, .int .i64 u.n, .float .f64 u.f, .string u.s, .slice a4 u.ns.length b4, .slice a5 u.xs.length b5] 37);
       have HR6 := gh hr6; have HG6 := gh hg6; have HRED := gh hred; have HOWN6 := gh hown6; have HUI := gh hui; have HUS := gh hus; have HFIN := gh hfin;
       clear ha6 ho6 ho6' hr6 hg6 hred hown6 hui hus k4 k5 hfin))
   all_goals
    have HRS9 := gh (HR8.o.set_ 5 (.slice ax' (us.length + 1) cx')); have HG9 := gh (HG8.o.set_ (p := ⟨V, 5,none⟩) (by simp) (.slice ax' (us.length + 1) cx'))
    go_wp2
    go_roundw
    case rel =>
     refine ⟨i + 1,ns2,us ++ [u],an2,ax',cn2,cx',q2,m2,k2,by go_num,by omega,hq2,hm2,by simp [HUL.o]; omega,by omega,HTZ2,gh ?_,gh (by simp [HUL.o]),by simpa using HRS9,by simpa using HG9⟩
     rw [List.map_append,List.map_cons,List.map_nil]
     rcases HFIN.o with ⟨h1,h2,h3,h4⟩ | ⟨h1,h2,h3⟩ | ⟨h1,h2⟩
     ·exact .inl ⟨h2,HKZ.o,HN2.o ▸ HCM.o.next1 hlt (by rcases HSN.o with ⟨_,h⟩ | ⟨h,_⟩; exact h; exact absurd h1 h) h4,h3⟩
     ·exact .inr ⟨h2,by rw [HED.o,HRMX.o]; simp only; rw [HCM.o.item_bad1 hlt (by rcases HSN.o with ⟨_,h⟩ | ⟨h,_⟩; exact h; exact absurd h1 h) h3]⟩
     ·refine .inr ⟨by rw [h2]; exact h1, ?_⟩
      rcases HSN.o with ⟨h,_⟩ | ⟨_,h⟩
      ·exact absurd h h1
      ·rw [h2]; exact by rw [HED.o,HRMX.o]; simp only; rw [HCM.o.name_bad hlt h]
    case measure => simp [intOf]; omega
  ·have hout : (i < n /\ k ≠ 0) \/ i = n := by
    by_cases h : i < n
    ·exact .inl ⟨h,fun hk => hgo ⟨h,hk⟩⟩
    ·exact .inr (by omega)
   have HRES : Hid ((k = 0 /\ i = n /\ m' <= 200 /\ rdV s (d + 1) p m = .ok (Val.node 6 ns (us.map Val.erase), q, m')) \/ (k ≠ 0 /\ rdV s (d + 1) p m = .error k)) := gh (by
    rcases HREL.o with ⟨h1,hz,h2,h3⟩ | h
    ·have hn : i = n := by
      rcases hout with ⟨_,h⟩ | h
      ·exact absurd h1 h
      ·exact h
     subst hn; refine .inl ⟨h1,rfl,h3,?_⟩
     rcases HRM.o with ⟨_,h⟩ | ⟨h,_,_⟩
     ·rw [HED.o,h]; simp only; rw [h2.done]
     ·exact absurd hz h
    ·exact .inr h)
   clear hgo HREL
   rcases hout with ⟨hlt,hk0⟩ | rfl
   ·have j1 : decide ((i : Int) < (n : Int)) = true := by simp; omega
    have j2 : decide (i < n) = true := by simp; omega
    have j3 : (k == 0) = false := by simpa using hk0
    clear hk0; clear c0 cn0 cx0; have e0 := HRS.o.cell 0; have e1 := HRS.o.cell 1; have e2 := HRS.o.cell 2; have e3 := HRS.o.cell 3; have e4 := HRS.o.cell 4; have e5 := HRS.o.cell 5; simp only [gX1,gX2] at e0 e1 e2 e3 e4 e5; have r0 := HRS.o.res.cell 0; have f0 := HRS.o.res.frozen 0; have r1 := HRS.o.res.cell 1; have f1 := HRS.o.res.frozen 1; have r2 := HRS.o.res.cell 2; have f2 := HRS.o.res.frozen 2; have r3 := HRS.o.res.cell 3; have f3 := HRS.o.res.frozen 3; have r4 := HRS.o.res.cell 4; have f4 := HRS.o.res.frozen 4; have r5 := HRS.o.res.cell 5; have f5 := HRS.o.res.frozen 5; simp only [gX0,gX1,gX2] at r0 r1 r2 r3 r4 r5; obtain ⟨WF,hWF⟩ := gXe (((((((wr.setCell ⟨R, 0,none⟩ (.int .i64 6)).setCell ⟨R, 1,none⟩ (.int .i64 0)).setCell ⟨R, 2,none⟩ (.float .f64 0)).setCell ⟨R, 3,none⟩ (.string ⟨#[]⟩)).setCell ⟨R, 4,none⟩ (.slice an ns.length cn)).setCell ⟨R, 5,none⟩ (.slice ax us.length cx))); have hst := stored6' HRS.o.res (.int .i64 6) (.int .i64 0) (.float .f64 0) (.string ⟨#[]⟩) (.slice an ns.length cn) (.slice ax us.length cx); rw [<- hWF] at hst; have HST := gh hst; have HWF := gh hWF; have HRD := gh (Blk.grown HRS.o.rd hst.2 (by have := HRS.o.glt; simp; omega))
    have HON := gh (only_far HRS.o.only hst.2 (by rw [HRS.o.eq]; exact Nat.le_refl _))
    clear hWF hst
    go_wp2_with fail
    rw [<- HWF.o]; clear e0 r0 f0 e1 r1 f1 e2 r2 f2 e3 r3 f3 e4 r4 f4 e5 r5 f5; have e0 := HST.o.1.cell 0; have e1 := HST.o.1.cell 1; have e2 := HST.o.1.cell 2; have e3 := HST.o.1.cell 3; have e4 := HST.o.1.cell 4; have e5 := HST.o.1.cell 5; simp only [gX0,gX1,gX2] at e0 e1 e2 e3 e4 e5; refine bodyPost_ret (v := .agg #[.int .i64 6, .int .i64 0, .float .f64 0, .string ⟨#[]⟩, .slice an ns.length cn, .slice ax us.length cx]) (by simp [results,Tryz.results134,go_sem,e0,e1,e2,e3,e4,e5]) rfl ?_
    refine fnode_end (R := R) (V := V) HRD.o HON.o (by rw [HWF.o]; exact HG.o.only (stored6' HRS.o.res _ _ _ _ _ _).2 (by have := HRS.o.rlt; omega)) (by rw [<- HR.o]; exact Nat.le_of_lt HRS.o.rlt) (by unfold i64r; omega) (by omega) (by omega) HTZ.o hqs hm' ?_
    rcases HRES.o with ⟨h1,_,h3,h4⟩ | h
    ·exact .inl ⟨rfl,h1,h3,h4⟩
    ·exact .inr (.inl ⟨rfl,h⟩)
   ·have j1 : decide ((i : Int) < (i : Int)) = false := by simp
    clear c0 cn0 cx0; have e0 := HRS.o.cell 0; have e1 := HRS.o.cell 1; have e2 := HRS.o.cell 2; have e3 := HRS.o.cell 3; have e4 := HRS.o.cell 4; have e5 := HRS.o.cell 5; simp only [gX1,gX2] at e0 e1 e2 e3 e4 e5; have r0 := HRS.o.res.cell 0; have f0 := HRS.o.res.frozen 0; have r1 := HRS.o.res.cell 1; have f1 := HRS.o.res.frozen 1; have r2 := HRS.o.res.cell 2; have f2 := HRS.o.res.frozen 2; have r3 := HRS.o.res.cell 3; have f3 := HRS.o.res.frozen 3; have r4 := HRS.o.res.cell 4; have f4 := HRS.o.res.frozen 4; have r5 := HRS.o.res.cell 5; have f5 := HRS.o.res.frozen 5; simp only [gX0,gX1,gX2] at r0 r1 r2 r3 r4 r5; obtain ⟨WF,hWF⟩ := gXe (((((((wr.setCell ⟨R, 0,none⟩ (.int .i64 6)).setCell ⟨R, 1,none⟩ (.int .i64 0)).setCell ⟨R, 2,none⟩ (.float .f64 0)).setCell ⟨R, 3,none⟩ (.string ⟨#[]⟩)).setCell ⟨R, 4,none⟩ (.slice an ns.length cn)).setCell ⟨R, 5,none⟩ (.slice ax us.length cx))); have hst := stored6' HRS.o.res (.int .i64 6) (.int .i64 0) (.float .f64 0) (.string ⟨#[]⟩) (.slice an ns.length cn) (.slice ax us.length cx); rw [<- hWF] at hst; have HST := gh hst; have HWF := gh hWF; have HRD := gh (Blk.grown HRS.o.rd hst.2 (by have := HRS.o.glt; simp; omega))
    have HON := gh (only_far HRS.o.only hst.2 (by rw [HRS.o.eq]; exact Nat.le_refl _))
    clear hWF hst
    go_wp2_with fail
    rw [<- HWF.o]; clear e0 r0 f0 e1 r1 f1 e2 r2 f2 e3 r3 f3 e4 r4 f4 e5 r5 f5; have e0 := HST.o.1.cell 0; have e1 := HST.o.1.cell 1; have e2 := HST.o.1.cell 2; have e3 := HST.o.1.cell 3; have e4 := HST.o.1.cell 4; have e5 := HST.o.1.cell 5; simp only [gX0,gX1,gX2] at e0 e1 e2 e3 e4 e5; refine bodyPost_ret (v := .agg #[.int .i64 6, .int .i64 0, .float .f64 0, .string ⟨#[]⟩, .slice an ns.length cn, .slice ax us.length cx]) (by simp [results,Tryz.results134,go_sem,e0,e1,e2,e3,e4,e5]) rfl ?_
    refine fnode_end (R := R) (V := V) HRD.o HON.o (by rw [HWF.o]; exact HG.o.only (stored6' HRS.o.res _ _ _ _ _ _).2 (by have := HRS.o.rlt; omega)) (by rw [<- HR.o]; exact Nat.le_of_lt HRS.o.rlt) (by unfold i64r; omega) (by omega) (by omega) HTZ.o hqs hm' ?_
    rcases HRES.o with ⟨h1,_,h3,h4⟩ | h
    ·exact .inl ⟨rfl,h1,h3,h4⟩
    ·exact .inr (.inl ⟨rfl,h⟩)
end Go.Proofs.YtaamihdibpioaaaGreat
namespace Go.Proofs.YtaamihdibpioaaaGreat
open Go.RowKit
theorem fV_float (s : ByteArray) (hs : s.size <= 100000) (d p m deep g : Nat) (w : World) (hd : deep + d = 13) (hp : p <= s.size) (hm : m <= 200) (hd12 : deep <= 12) (hm1 : m + 1 <= 200) (hin : p < s.size) (hk : (byteAt s p).toNat = 3) (h : RAt w g s p 0 (m : Int)) :
  Calls Tryz.prog 134 #[.pointer (some ⟨g, 0,none⟩), .int .i64 deep] w fun e w' => FValD s d p m 0 g w e w' := by
 have hsf := run_store_flt; obtain ⟨R,hR⟩ := gXe (w.heap.size); obtain ⟨W,hW⟩ := gXe (w.alloc (.cells #[.int .i64 0, .int .i64 0, .float .f64 0, .string ⟨#[]⟩, .slice none 0 0, .slice none 0 0] 37)); have hst : RS1 37 [.int .i64 0, .int .i64 0, .float .f64 0, .string ⟨#[]⟩, .slice none 0 0, .slice none 0 0] w W g R s p 0 (m : Int) := by rw [hR,hW]; exact RS1.start 37 [.int .i64 0, .int .i64 0, .float .f64 0, .string ⟨#[]⟩, .slice none 0 0, .slice none 0 0] h
 have HR := gh hR; have HW := gh hW; have HS0 := gh hst; clear hR hW hst h; obtain ⟨d,rfl⟩ : ∃ d2,d = d2 + 1 := ⟨d - 1,by omega⟩
 have HBEG := gh (fbegin_ok s p m deep g 0 W hm (by omega) hm1 HS0.o.rd)
 have HE : Hid (rdV s (d + 1) p m = (match readF s (p + 1) with
   | .error k => .error k
   | .ok (f,q) => .ok (Val.leafF f,q,m + 1))) := gh (by unfold rdV; rw [if_neg (by omega),if_neg (by omega),if_neg (by rw [hk]; decide),if_neg (by rw [hk]; decide),if_pos hk]; rfl)
 go_enter Tryz.func134,Tryz.ntmps134
 go_wp2_with fail
 rw [<- HW.o, <- HR.o]; refine HBEG.o.mono ?_; rintro e w1 ⟨rfl,ha1,ho1⟩; have HS1 := gh (HS0.o.read ha1 ho1); clear ha1 ho1 HBEG HW; have HB1 := gh (fbyte_k s p ((m + 1 : Nat) : Int) g 3 w1 hs hin HS1.o.rd hk)
 go_wp2_with fail
 refine HB1.o.mono ?_; rintro e w2 ⟨rfl,ha2,ho2⟩; have HS2 := gh (HS1.o.read ha2 ho2); clear ha2 ho2 HB1 HS1; obtain ⟨V,hV⟩ := gXe (w2.heap.size); obtain ⟨W2,hW2⟩ := gXe (w2.alloc (.cells #[.int .i64 3, .int .i64 0, .float .f64 0, .string ⟨#[]⟩, .slice none 0 0, .slice none 0 0] 37)); have hs3 := HS2.o.make [.int .i64 3, .int .i64 0, .float .f64 0, .string ⟨#[]⟩, .slice none 0 0, .slice none 0 0]; rw [show w2.alloc (.cells [.int .i64 3, .int .i64 0, .float .f64 0, .string ⟨#[]⟩, .slice none 0 0, .slice none 0 0].toArray 37) = W2 from hW2.symm, <- hV] at hs3
 have HS3 := gh hs3; have HW2 := gh hW2; have HV := gh hV; clear hs3 hW2 hV HS2
 go_upto_region 3 with fail
 rw [<- HW2.o, <- HV.o]; have c0 := HS3.o.cell 0; have ce := HS3.o.err; have hvl := HS3.o.vlt; simp only [gX1,gX2] at c0
 go_wp2_with fail
 go_loopw [6, 7] (fun bv iv wr => ∃ (i b q : Nat) (k : Int),bv = .int .u64 b /\ iv = .int .i64 i /\ i <= 8 /\ b < 256 ^ i /\ q <= s.size /\ Hid ((k = 0 /\ q = p + 1 + i /\ b = beAt s (p + 1) i) \/ (k = 14 /\ s.size < p + 1 + 8)) /\ Hid (RS2 37 [.int .i64 0, .int .i64 0, .float .f64 0, .string ⟨#[]⟩, .slice none 0 0, .slice none 0 0] w wr g R V s q k ((m + 1 : Nat) : Int) [.int .i64 3, .int .i64 0, .float .f64 0, .string ⟨#[]⟩, .slice none 0 0, .slice none 0 0])) (fun _ iv _ => (8 - intOf iv).toNat)
 case atStart => exact ⟨0, 0,p + 1, 0,rfl,rfl,by omega,by decide,by omega,gh (.inl ⟨rfl,rfl,rfl⟩),HS3⟩
 case round =>
  obtain ⟨i,b,q,k,rfl,rfl,hi,hb,hq,HST,HRS⟩ := hrel; clear HS3 c0 ce hvl; have c0 := HRS.o.cell 0; have ce := HRS.o.err; have hvl := HRS.o.vlt; simp only [gX1,gX2] at c0
  have hb8 : b < 18446744073709551616 := by
   have h2 : 256 ^ i <= 256 ^ 8 := Nat.pow_le_pow_right (by omega) (by omega)
   have h3 : (256 : Nat) ^ 8 = 18446744073709551616 := by decide
   omega
  by_cases hlt : i < 8
  ·have i1 : decide ((i : Int) < 8) = true := by simp; omega
   have hb7 : b * 256 + 255 < 18446744073709551616 := by
    have h2 : 256 ^ i <= 256 ^ 7 := Nat.pow_le_pow_right (by omega) (by omega)
    have h3 : (256 : Nat) ^ 7 = 72057594037927936 := by decide
    omega
   have e1 : IntKind.u64.wrap ((b : Int) * 256) = ((b * 256 : Nat) : Int) := by rw [IntKind.wrap_u64]; omega
   have hnext : ∀ c,c < 256 -> b * 256 + c < 256 ^ (i + 1) := fun c hc => by rw [Nat.pow_succ]; omega
   have HNX := gh hnext; clear hnext hb
   have HB2 : Hid (Calls Tryz.prog 91 #[.pointer (some ⟨g, 0, none⟩)] wr fun e w' => ∃ (c q' : Nat) (k' : Int), e = .returned (.int .i64 c) /\ c < 256 /\ q' <= s.size /\ RAt w' g s q' k' ((m + 1 : Nat) : Int) /\ Only wr w' g /\ ((k' = 0 /\ q' = p + 1 + (i + 1) /\ b * 256 + c = beAt s (p + 1) (i + 1)) \/ (k' = 14 /\ s.size < p + 1 + 8))) := gh (by
    rcases HST.o with ⟨rfl,rfl,rfl⟩ | ⟨rfl,h⟩
    ·refine (fbyte_any s (p + 1 + i) ((m + 1 : Nat) : Int) g wr hs hq HRS.o.rd).mono ?_
     rintro e w' ⟨ho,c,q',k',rfl,hc,ha,hq',⟨rfl,rfl,h3,rfl⟩ | ⟨rfl,rfl,h3⟩⟩
     ·exact ⟨_,_,_,rfl,hc,hq',ha,ho, .inl ⟨rfl,by omega,rfl⟩⟩
     ·exact ⟨_,_,_,rfl,hc,hq',ha,ho, .inr ⟨rfl,by omega⟩⟩
    ·refine (fbyte_old 14 s q ((m + 1 : Nat) : Int) g wr HRS.o.rd (by decide)).mono ?_
     rintro e w' ⟨rfl,rfl⟩; exact ⟨0,q, 14,rfl,by omega,hq,HRS.o.rd,Only.refl wr g, .inr ⟨rfl,h⟩⟩)
   go_wp2_with fail
   refine HB2.o.mono ?_; rintro e w3 ⟨c,q',k',rfl,hc,hq',ha3,ho3,hfin⟩; have HS4 := gh (HRS.o.read ha3 ho3); have HFIN := gh hfin; have e2 : IntKind.u64.wrap (c : Int) = (c : Int) := by rw [IntKind.wrap_u64]; omega
   have e3 : IntKind.u64.wrap (((b * 256 : Nat) : Int) + (c : Int)) = ((b * 256 + c : Nat) : Int) := by rw [IntKind.wrap_u64]; omega
   clear ha3 ho3 hfin HB2
   go_wp2
   go_roundw
   case rel => exact ⟨i + 1,b * 256 + c,q',k',by simp,by go_num,by omega,HNX.o c hc,hq',HFIN,HS4⟩
   case measure => simp [intOf]; omega
  ·obtain rfl : i = 8 := by omega
   have i1 : decide (((8 : Nat) : Int) < 8) = false := by simp
   have hfrom := frombits_run b; have hbits := bits_run' (fcan b); have c2 := HRS.o.cell 2; have f2 := HRS.o.frozen 2; simp only [gX1,gX2] at c2; clear hlt
   go_upto_region 28 with fail
   obtain ⟨W4,hW4⟩ := gXe (wr.setCell ⟨V, 2,none⟩ (.float .f64 b)); have hs5 := HRS.o.set_ 2 (.float .f64 b); rw [<- hW4] at hs5; have HS5 : Hid (RS2 37 _ w W4 g R V s q k ((m + 1 : Nat) : Int) [.int .i64 3, .int .i64 0, .float .f64 b, .string ⟨#[]⟩, .slice none 0 0, .slice none 0 0]) := gh hs5; have HW4 := gh hW4; rw [<- HW4.o]; clear hs5 hW4 c2 f2 c0 ce hvl HRS; have c2 := HS5.o.cell 2; have ce := HS5.o.err; have hvl := HS5.o.vlt; simp only [gX1,gX2] at c2
   by_cases hk0 : k = 0
   ·subst hk0
    obtain ⟨hq8, hb0⟩ : q = p + 1 + 8 /\ b = beAt s (p + 1) 8 := by
     rcases HST.o with ⟨_,h1,h2⟩ | ⟨h,_⟩
     ·exact ⟨h1,h2⟩
     ·cases h
    by_cases hfc : fcan b = b
    ·have HE2 : Hid (rdV s (d + 1) p m = .ok (Val.leafF b, q, m + 1)) := gh (by
      rw [HE.o]; unfold readF; rw [if_pos (by omega), <- hb0,if_pos hfc,hq8])
     have HCAN := gh (fun W => rcanon_any b W)
     rw [hfc] at HCAN hbits; clear hfc HE HST hq8 hb0
     go_wp2_with fail
     refine (HCAN.o _).mono ?_; rintro e w5 ⟨rfl,rfl⟩; clear c2; have e0 := HS5.o.cell 0; have e1 := HS5.o.cell 1; have e2 := HS5.o.cell 2; have e3 := HS5.o.cell 3; have e4 := HS5.o.cell 4; have e5 := HS5.o.cell 5; simp only [gX1,gX2] at e0 e1 e2 e3 e4 e5; have r0 := HS5.o.res.cell 0; have f0 := HS5.o.res.frozen 0; have r1 := HS5.o.res.cell 1; have f1 := HS5.o.res.frozen 1; have r2 := HS5.o.res.cell 2; have f2 := HS5.o.res.frozen 2; have r3 := HS5.o.res.cell 3; have f3 := HS5.o.res.frozen 3; have r4 := HS5.o.res.cell 4; have f4 := HS5.o.res.frozen 4; have r5 := HS5.o.res.cell 5; have f5 := HS5.o.res.frozen 5; simp only [gX0,gX1,gX2] at r0 r1 r2 r3 r4 r5; obtain ⟨WF,hWF⟩ := gXe (((((((W4.setCell ⟨R, 0,none⟩ (.int .i64 3)).setCell ⟨R, 1,none⟩ (.int .i64 0)).setCell ⟨R, 2,none⟩ (.float .f64 b)).setCell ⟨R, 3,none⟩ (.string ⟨#[]⟩)).setCell ⟨R, 4,none⟩ (.slice none 0 0)).setCell ⟨R, 5,none⟩ (.slice none 0 0))); have hst := stored6' HS5.o.res (.int .i64 3) (.int .i64 0) (.float .f64 b) (.string ⟨#[]⟩) (.slice none 0 0) (.slice none 0 0); rw [<- hWF] at hst; have HST := gh hst; have HWF := gh hWF; have HRD := gh (Blk.grown HS5.o.rd hst.2 (by have := HS5.o.glt; simp; omega))
     have HON := gh (only_far HS5.o.only hst.2 (by rw [HS5.o.eq]; exact Nat.le_refl _))
     clear hWF hst
     go_wp2_with fail
     rw [<- HWF.o]; clear e0 r0 f0 e1 r1 f1 e2 r2 f2 e3 r3 f3 e4 r4 f4 e5 r5 f5; have e0 := HST.o.1.cell 0; have e1 := HST.o.1.cell 1; have e2 := HST.o.1.cell 2; have e3 := HST.o.1.cell 3; have e4 := HST.o.1.cell 4; have e5 := HST.o.1.cell 5; simp only [gX0,gX1,gX2] at e0 e1 e2 e3 e4 e5; refine bodyPost_ret (v := .agg #[.int .i64 3, .int .i64 0, .float .f64 b, .string ⟨#[]⟩, .slice none 0 0, .slice none 0 0]) (by simp [results,Tryz.results134,go_sem,e0,e1,e2,e3,e4,e5]) rfl ?_
     exact fleaf_end (R := R) (V := V) HRD.o HON.o (by unfold i64r; omega) (by unfold i64r; omega) hb8 (by unfold strok; decide) hq (by omega) (.inl ⟨rfl,rfl,hm1,HE2.o⟩)
    ·have HE2 : Hid (rdV s (d + 1) p m = .error 5) := gh (by
      rw [HE.o]; unfold readF; rw [if_pos (by omega), <- hb0,if_neg hfc])
     have hne : (((fcan b : Nat) : Int) != ((b : Nat) : Int)) = true := by simpa using fun h => hfc (by omega)
     clear hfc HE HST hq8 hb0
     go_wp2_with fail
     refine (rcanon_any b _).mono ?_; rintro e w5 ⟨rfl,rfl⟩
     go_wp2_with fail
     refine (ffail_any 5 s q ((m + 1 : Nat) : Int) g _ HS5.o.rd).mono ?_; rintro e w6 ⟨rfl,ha6,ho6⟩; have HS6 : Hid (RS2 37 _ w w6 g R V s q 5 ((m + 1 : Nat) : Int) [.int .i64 3, .int .i64 0, .float .f64 b, .string ⟨#[]⟩, .slice none 0 0, .slice none 0 0]) := gh (HS5.o.read ha6 ho6); clear ha6 ho6 HS5 c2 ce; have e0 := HS6.o.cell 0; have e1 := HS6.o.cell 1; have e2 := HS6.o.cell 2; have e3 := HS6.o.cell 3; have e4 := HS6.o.cell 4; have e5 := HS6.o.cell 5; simp only [gX1,gX2] at e0 e1 e2 e3 e4 e5; have r0 := HS6.o.res.cell 0; have f0 := HS6.o.res.frozen 0; have r1 := HS6.o.res.cell 1; have f1 := HS6.o.res.frozen 1; have r2 := HS6.o.res.cell 2; have f2 := HS6.o.res.frozen 2; have r3 := HS6.o.res.cell 3; have f3 := HS6.o.res.frozen 3; have r4 := HS6.o.res.cell 4; have f4 := HS6.o.res.frozen 4; have r5 := HS6.o.res.cell 5; have f5 := HS6.o.res.frozen 5; simp only [gX0,gX1,gX2] at r0 r1 r2 r3 r4 r5; obtain ⟨WF,hWF⟩ := gXe (((((((w6.setCell ⟨R, 0,none⟩ (.int .i64 3)).setCell ⟨R, 1,none⟩ (.int .i64 0)).setCell ⟨R, 2,none⟩ (.float .f64 b)).setCell ⟨R, 3,none⟩ (.string ⟨#[]⟩)).setCell ⟨R, 4,none⟩ (.slice none 0 0)).setCell ⟨R, 5,none⟩ (.slice none 0 0))); have hst := stored6' HS6.o.res (.int .i64 3) (.int .i64 0) (.float .f64 b) (.string ⟨#[]⟩) (.slice none 0 0) (.slice none 0 0); rw [<- hWF] at hst; have HST := gh hst; have HWF := gh hWF; have HRD := gh (Blk.grown HS6.o.rd hst.2 (by have := HS6.o.glt; simp; omega))
     have HON := gh (only_far HS6.o.only hst.2 (by rw [HS6.o.eq]; exact Nat.le_refl _))
     clear hWF hst
     go_wp2_with fail
     rw [<- HWF.o]; clear e0 r0 f0 e1 r1 f1 e2 r2 f2 e3 r3 f3 e4 r4 f4 e5 r5 f5; have e0 := HST.o.1.cell 0; have e1 := HST.o.1.cell 1; have e2 := HST.o.1.cell 2; have e3 := HST.o.1.cell 3; have e4 := HST.o.1.cell 4; have e5 := HST.o.1.cell 5; simp only [gX0,gX1,gX2] at e0 e1 e2 e3 e4 e5; refine bodyPost_ret (v := .agg #[.int .i64 3, .int .i64 0, .float .f64 b, .string ⟨#[]⟩, .slice none 0 0, .slice none 0 0]) (by simp [results,Tryz.results134,go_sem,e0,e1,e2,e3,e4,e5]) rfl ?_
     exact fleaf_end (R := R) (V := V) HRD.o HON.o (by unfold i64r; omega) (by unfold i64r; omega) hb8 (by unfold strok; decide) hq (by omega) (.inr (.inl ⟨rfl,by decide,HE2.o⟩))
   ·have hz : s.size < p + 1 + 8 /\ k = 14 := by
     rcases HST.o with ⟨h,_⟩ | ⟨h1,h2⟩
     ·exact absurd h hk0
     ·exact ⟨h2,h1⟩
    have HE2 : Hid (rdV s (d + 1) p m = .error k) := gh (by
     rw [HE.o]; unfold readF; rw [if_neg (by omega),hz.2])
    have HK := gh hk0; have j1 : (k == 0) = false := by simpa using hk0
    clear hz HE HST hk0; have e0 := HS5.o.cell 0; have e1 := HS5.o.cell 1; have e2 := HS5.o.cell 2; have e3 := HS5.o.cell 3; have e4 := HS5.o.cell 4; have e5 := HS5.o.cell 5; simp only [gX1,gX2] at e0 e1 e2 e3 e4 e5; have r0 := HS5.o.res.cell 0; have f0 := HS5.o.res.frozen 0; have r1 := HS5.o.res.cell 1; have f1 := HS5.o.res.frozen 1; have r2 := HS5.o.res.cell 2; have f2 := HS5.o.res.frozen 2; have r3 := HS5.o.res.cell 3; have f3 := HS5.o.res.frozen 3; have r4 := HS5.o.res.cell 4; have f4 := HS5.o.res.frozen 4; have r5 := HS5.o.res.cell 5; have f5 := HS5.o.res.frozen 5; simp only [gX0,gX1,gX2] at r0 r1 r2 r3 r4 r5; obtain ⟨WF,hWF⟩ := gXe (((((((W4.setCell ⟨R, 0,none⟩ (.int .i64 3)).setCell ⟨R, 1,none⟩ (.int .i64 0)).setCell ⟨R, 2,none⟩ (.float .f64 b)).setCell ⟨R, 3,none⟩ (.string ⟨#[]⟩)).setCell ⟨R, 4,none⟩ (.slice none 0 0)).setCell ⟨R, 5,none⟩ (.slice none 0 0))); have hst := stored6' HS5.o.res (.int .i64 3) (.int .i64 0) (.float .f64 b) (.string ⟨#[]⟩) (.slice none 0 0) (.slice none 0 0); rw [<- hWF] at hst; have HST := gh hst; have HWF := gh hWF; have HRD := gh (Blk.grown HS5.o.rd hst.2 (by have := HS5.o.glt; simp; omega))
    have HON := gh (only_far HS5.o.only hst.2 (by rw [HS5.o.eq]; exact Nat.le_refl _))
    clear hWF hst
    go_wp2_with fail
    rw [<- HWF.o]; clear e0 r0 f0 e1 r1 f1 e2 r2 f2 e3 r3 f3 e4 r4 f4 e5 r5 f5; have e0 := HST.o.1.cell 0; have e1 := HST.o.1.cell 1; have e2 := HST.o.1.cell 2; have e3 := HST.o.1.cell 3; have e4 := HST.o.1.cell 4; have e5 := HST.o.1.cell 5; simp only [gX0,gX1,gX2] at e0 e1 e2 e3 e4 e5; refine bodyPost_ret (v := .agg #[.int .i64 3, .int .i64 0, .float .f64 b, .string ⟨#[]⟩, .slice none 0 0, .slice none 0 0]) (by simp [results,Tryz.results134,go_sem,e0,e1,e2,e3,e4,e5]) rfl ?_
    exact fleaf_end (R := R) (V := V) HRD.o HON.o (by unfold i64r; omega) (by unfold i64r; omega) hb8 (by unfold strok; decide) hq (by omega) (.inr (.inl ⟨rfl,HK.o,HE2.o⟩))
theorem fvalue_any (s : ByteArray) (hs : s.size <= 100000) (d : Nat) : ∀ (deep : Nat) (k : Int) (p m g : Nat) (w : World), deep + d = 13 -> p <= s.size -> m <= 200 -> RAt w g s p k (m : Int) ->
  Calls Tryz.prog 134 #[.pointer (some ⟨g, 0,none⟩), .int .i64 deep] w fun e w' => FValD s d p m k g w e w' := by
 induction d with
 | zero =>
  intro deep k p m g w hd hp hm h
  by_cases hk : k = 0
  ·subst hk
   exact fV_begin s hs 0 p m deep g w hd hp hm (.inl (by omega)) h
  ·exact fV_old s hs 0 p m deep g w hd hp hm k hk h
 | succ d ih =>
  intro deep k p m g w hd hp hm h
  by_cases hk : k = 0
  case neg => exact fV_old s hs (d + 1) p m deep g w hd hp hm k hk h
  subst hk
  by_cases hm1 : m + 1 <= 200
  case neg => exact fV_begin s hs (d + 1) p m deep g w hd hp hm (.inr (by omega)) h
  have h12 : deep <= 12 := by omega
  by_cases hin : p < s.size
  case neg => exact fV_torn s hs (d + 1) p m deep g w hd hp hm h12 hm1 hin h
  by_cases h1 : (byteAt s p).toNat = 1
  ·exact fV_bool s hs (d + 1) p m deep g w hd hp hm h12 hm1 hin h1 h
  by_cases h2 : (byteAt s p).toNat = 2
  ·cases hu : readU s (p + 1) 0 0 with
   | error k => exact fV_int_bad s hs (d + 1) p m deep g w hd hp hm h12 hm1 hin h2 k hu h
   | ok x => exact fV_int_ok s hs (d + 1) p m deep g w hd hp hm h12 hm1 hin h2 x.1 x.2 hu h
  by_cases h3 : (byteAt s p).toNat = 3
  ·exact fV_float s hs (d + 1) p m deep g w hd hp hm h12 hm1 hin h3 h
  by_cases h4 : (byteAt s p).toNat = 4
  ·exact fV_str s hs (d + 1) p m deep g w hd hp hm h12 hm1 hin h4 h
  have ih' := fun (k : Int) (p m g : Nat) (w : World) hp hm h => ih (deep + 1) k p m g w (by omega) hp hm h
  by_cases h5 : (byteAt s p).toNat = 5
  ·exact fV_list s hs d p m deep g w (by omega) hp hm hm1 hin h5 ih' h
  by_cases h6 : (byteAt s p).toNat = 6
  ·exact fV_rec s hs d p m deep g w (by omega) hp hm hm1 hin h6 ih' h
  by_cases h0 : (byteAt s p).toNat = 0
  ·exact fV_low s hs (d + 1) p m deep g w hd hp hm h12 hm1 hin _ rfl h0 h
  ·exact fV_high s hs (d + 1) p m deep g w hd hp hm h12 hm1 hin _ rfl (by omega) h
end Go.Proofs.YtaamihdibpioaaaGreat
namespace Go.Proofs.YtaamihdibpioaaaGreat
open Go.RowKit
end Go.Proofs.YtaamihdibpioaaaGreat
