/- Part 3 of the texts that lead to this claim: the walks of the functions and the plain law, in order. -/
import Derived.Test.YtgedpfebepdcmaaGreatDoorMa2
import Derived.ChangeKeysEq
namespace Go.Proofs.YtgedpfebepdcmaaGreatDoor
section
open Go.RowKit
def zU (n : Nat) : List UInt32:=List.replicate n 0
theorem zU_length (n : Nat) : (zU n).length = n:=List.length_replicate
def wC (x : UInt32) : Value:=.int .u32 (nU x)
def wsC (L : List UInt32) : Array Value:=(L.map wC).toArray
@[simp] theorem wsC_size (L : List UInt32) : (wsC L).size = L.length:=by simp [wsC]
theorem wsC_one (L : List UInt32) : ∀ u ∈ (wsC L).toList,u.oneCell' = true:=by
  intro u hu;simp [wsC] at hu;obtain ⟨c,_,rfl⟩:=hu;rfl
theorem wsC_get (L : List UInt32) {i : Nat} (h : i < L.length) : (wsC L)[i]? = some (.int .u32 (nU (L.getD i 0))):=by
  simp [wsC,wC,List.getD,h]
theorem wsC_set (L : List UInt32) (i : Nat) (x : UInt32) : (wsC L).setIfInBounds i (.int .u32 (nU x)) = wsC (L.set i x):=by
  apply Array.ext';rw [Array.toList_setIfInBounds];show (L.map wC).set i (wC x) = (L.set i x).map wC;rw [List.map_set]
section
theorem infoW64 : (Tryz.prog.info? 125).map (·.size) = some 64:=by kernel_rfl
@[go_sem ↓] theorem zeroW64_run (w : World) : (zeroValue 125).run Tryz.prog w = .ok (.agg (wsC (zU 64))) w:=by
  have h : (Tryz.prog.info? 125).bind (·.zero) = some (.agg (wsC (zU 64))):=by kernel_rfl
  cases hi : Tryz.prog.info? 125 with
  | none=>rw [hi] at h;cases h
  | some i =>
    rw [hi] at h;have hz : i.zero = some (.agg (wsC (zU 64))):=h;simp [zeroValue,typeInfo,hi,hz]
@[go_sem ↓] theorem loadW64_rw (a : Addr) : loadVar 125 a = ldS 125 a:=rfl
@[go_sem ↓] theorem storeW64_rw (a : Addr) (v : Value) : storeVar 125 a v = stS 125 a v:=rfl
@[go_sem] theorem loadW64_run (w : World) (g o : Nat) : (ldS 125 ⟨g,o,none⟩).run Tryz.prog w = match rowAt w g o 64 with | some cs=>.ok (.agg cs) w | none=>(loadVar 125 ⟨g,o,none⟩).run Tryz.prog w :=
  run_ldS Tryz.underlying125 rfl infoW64 w g o
@[go_sem] theorem storeW64_run (w : World) (g : Nat) (hg : g = w.heap.size) (z : Array Value) (hz : z.size = 64) (L : List UInt32) (hL : L.length = 64) (e : TypeId) : (stS 125 ⟨g,0,none⟩ (.agg (wsC L))).run Tryz.prog (w.alloc (.cells z e)) = .ok () (w.alloc (.cells (wsC L) e)) :=
  hg ▸ run_stS_new infoW64 w z (wsC L) hz ((wsC_size L).trans hL) (wsC_one L)
theorem infoSt8 : (Tryz.prog.info? 157).map (·.size) = some 8:=by kernel_rfl
@[go_sem ↓] theorem zeroSt8_run (w : World) : (zeroValue 157).run Tryz.prog w = .ok (.agg (wsC (zU 8))) w:=by
  have h : (Tryz.prog.info? 157).bind (·.zero) = some (.agg (wsC (zU 8))):=by kernel_rfl
  cases hi : Tryz.prog.info? 157 with
  | none=>rw [hi] at h;cases h
  | some i =>
    rw [hi] at h;have hz : i.zero = some (.agg (wsC (zU 8))):=h;simp [zeroValue,typeInfo,hi,hz]
@[go_sem ↓] theorem loadSt8_rw (a : Addr) : loadVar 157 a = ldS 157 a:=rfl
@[go_sem ↓] theorem storeSt8_rw (a : Addr) (v : Value) : storeVar 157 a v = stS 157 a v:=rfl
@[go_sem] theorem loadSt8_run (w : World) (g o : Nat) : (ldS 157 ⟨g,o,none⟩).run Tryz.prog w = match rowAt w g o 8 with | some cs=>.ok (.agg cs) w | none=>(loadVar 157 ⟨g,o,none⟩).run Tryz.prog w :=
  run_ldS Tryz.underlying157 rfl infoSt8 w g o
@[go_sem] theorem storeSt8_run (w : World) (g : Nat) (hg : g = w.heap.size) (z : Array Value) (hz : z.size = 8) (L : List UInt32) (hL : L.length = 8) (e : TypeId) : (stS 157 ⟨g,0,none⟩ (.agg (wsC L))).run Tryz.prog (w.alloc (.cells z e)) = .ok () (w.alloc (.cells (wsC L) e)) :=
  hg ▸ run_stS_new infoSt8 w z (wsC L) hz ((wsC_size L).trans hL) (wsC_one L)
end
end
section
open Go.RowKit
theorem rot_left (x : UInt32) (n : Nat) (h0 : 0 < n) (h1 : n < 32) (w : World) :
    Calls Tryz.prog 146 #[.int .u32 (nU x),.int .i64 (-(n : Int))] w fun e w'=>e = .returned (.int .u32 (nU (rotU x n))) ∧ w = w':=by
  have hw : IntKind.u64.wrap (-(n : Int)) = 18446744073709551616 - (n : Int):=by simp [IntKind.wrap,IntKind.bits,IntKind.signed];omega
  have hs : bits .and .u64 (18446744073709551616 - (n : Int)) 31 = ((32 - n : Nat) : Int):=by
    rw [u64_and _ _ (by omega) (by omega) (by omega) (by omega),show (31 : Int).toNat = 31 from rfl,nat_mask5];omega
  have hw2 : IntKind.u64.wrap (32 - ((32 - n : Nat) : Int)) = (n : Int):=by simp [IntKind.wrap,IntKind.bits,IntKind.signed];omega
  have hl : nU x * 2 ^ (32 - n) % 4294967296 = nU (x <<< UInt32.ofNat (32 - n)):=by
    rw [← u_shl _ _ (by omega),IntKind.wrap_u32']
  have hr : Op.shift .shr .u32 (nU x) .u64 (n : Int) = pure (.int .u32 (nU (x >>> UInt32.ofNat n))):=by
    rw [shift_shr _ _ _ _ (by omega) (by show _ ≤ ((32 : Nat) : Int);omega),Int.toNat_natCast,u_shr _ _ h1]
  have hor : x <<< UInt32.ofNat (32 - n) ||| x >>> UInt32.ofNat n = rotU x n:=UInt32.or_comm _ _
  have Hor:=Lib.hid hor;clear hor h0 h1;go_enter Tryz.func146,Tryz.ntmps146
  (go_wp2_with fail);go_ret;exact ⟨by rw [Hor.out];rfl,rfl⟩
theorem down_any (x : UInt32) (n : Nat) (h0 : 0 < n) (h1 : n < 32) (w : World) :
    Calls Tryz.prog 116 #[.int .u32 (nU x),.int .i64 n] w fun e w'=>e = .returned (.int .u32 (nU (rotU x n))) ∧ w = w':=by
  have c:=rot_left x n h0 h1 w;have hw : IntKind.i64.wrap (-(n : Int)) = -(n : Int):=by simp [IntKind.wrap,IntKind.bits,IntKind.signed];omega
  clear h0 h1;go_enter Tryz.func116,Tryz.ntmps116
  (go_wp2_with fail);refine c.mono ?_;rintro e w1 ⟨rfl,rfl⟩;(go_wp2_with fail);go_ret;exact ⟨rfl,rfl⟩
@[go_sem] theorem u8_word (b : UInt8) : IntKind.u32.wrap ((b.toNat : Nat) : Int) = nU b.toUInt32:=by
  have:=b.toNat_lt;rw [IntKind.wrap_u32'];unfold nU;rw [UInt8.toNat_toUInt32];omega
theorem sh24 (x : UInt32) : IntKind.u32.wrap (nU x * (16777216 : Int)) = nU (x <<< 24):=u_shl x 24 (by omega)
theorem sh16 (x : UInt32) : IntKind.u32.wrap (nU x * (65536 : Int)) = nU (x <<< 16):=u_shl x 16 (by omega)
theorem sh8 (x : UInt32) : IntKind.u32.wrap (nU x * (256 : Int)) = nU (x <<< 8):=u_shl x 8 (by omega)
theorem sh24m (x : UInt32) : nU x * (16777216 : Int) % (4294967296 : Int) = nU (x <<< 24):=by have h:=sh24 x;rwa [IntKind.wrap_u32'] at h
theorem sh16m (x : UInt32) : nU x * (65536 : Int) % (4294967296 : Int) = nU (x <<< 16):=by have h:=sh16 x;rwa [IntKind.wrap_u32'] at h
theorem sh8m (x : UInt32) : nU x * (256 : Int) % (4294967296 : Int) = nU (x <<< 8):=by have h:=sh8 x;rwa [IntKind.wrap_u32'] at h
attribute [go_sem] sh24 sh16 sh8 sh24m sh16m sh8m
@[go_sem] theorem dn3 (x : UInt32) : nU x / (8 : Int) = nU (x >>> 3):=u_shr x 3 (by omega)
@[go_sem] theorem dn10 (x : UInt32) : nU x / (1024 : Int) = nU (x >>> 10):=u_shr x 10 (by omega)
abbrev BytesIn (w : World) (A : Option Addr) (n : Nat) (bs : List UInt8) : Prop:=SlR w A n 1 (bytesR bs)
theorem BytesIn.get {w : World} {A : Option Addr} {n : Nat} {bs : List UInt8} (h : BytesIn w A n bs) {i : Nat} (hi : i < n) : ∃ g o,A = some ⟨g,o,none⟩ ∧ ∀ j,j < n → w.cell? ⟨g,o + j,none⟩ = some (.int .u8 ((bs.getD j 0).toNat : Int)):=by
  obtain ⟨g,o,e,hr⟩:=h.at_ hi;have hlen : bs.length = n:=by simpa [bytesR] using h.1
  refine ⟨g,o,e,fun j hj=>?_⟩;obtain ⟨g',o',e',hr'⟩:=h.at_ hj;rw [e] at e';injection e' with e';injection e' with e1 e2;subst e1 e2
  have hr2 : rowAt w g (o + j * 1) 1 = some #[byteC (bs[j]'(by omega))]:=by rw [hr'];simp [bytesR,byteR]
  have hc:=rowAt_cell hr2 (j:=0) (by omega);rw [show o + j * 1 + 0 = o + j by omega] at hc;rw [hc];have hj2 : j < bs.length:=by omega
  simp [byteC,List.getD,hj2]
set_option maxRecDepth 100000 in
set_option maxHeartbeats 4000000 in
theorem sched_any (w : World) (A : Option Addr) (cap : Nat) (bs : List UInt8) (h : BytesIn w A 64 bs) :
    Calls Tryz.prog 115 #[.slice A 64 cap] w fun e w'=>e = .returned (.agg (wsC (schedU bs 64))) ∧ Below w.heap.size w w':=by
  have hb0 : Below w.heap.size w ((w.alloc (.cells (wsC (zU 64)) 125)).alloc (.cells (wsC (zU 64)) 125)):=((Below.refl _ _).alloc (Nat.le_refl _) _).alloc (by simp) _;have hg2 : ((w.alloc (.cells (wsC (zU 64)) 125)).alloc (.cells (wsC (zU 64)) 125)).heap[w.heap.size]? = some (.cells (wsC (zU 64)) 125 (0,0)):=by
    rw [Below.heap_alloc _ _ _ (by simp)];exact heap_alloc_new w _
  have hg3 : ((w.alloc (.cells (wsC (zU 64)) 125)).alloc (.cells (wsC (zU 64)) 125)).heap[w.heap.size + 1]? = some (.cells (wsC (zU 64)) 125 (0,0)):=by
    have:=heap_alloc_new (w.alloc (.cells (wsC (zU 64)) 125)) (.cells (wsC (zU 64)) 125);simpa using this
  obtain ⟨q,o,rfl,hbs0⟩:=BytesIn.get h (i:=0) (by omega);have hq0 : q < w.heap.size:=World.block_lt_of_cell? _ _ (hbs0 0 (by omega));have hbs : ∀ j,j < 64 → _:=fun j hj=>(hb0.cell (p:=⟨q,o + j,none⟩) hq0).trans (hbs0 j hj);clear h hbs0;go_enter Tryz.func115,Tryz.ntmps115
  (go_wp2_with fail);obtain ⟨g,hg⟩ : ∃ g,w.heap.size = g:=⟨_,rfl⟩
  have Hg:=Lib.hid hg;obtain ⟨W,hW⟩ : ∃ W,W = (w.alloc (.cells (wsC (zU 64)) 125)).alloc (.cells (wsC (zU 64)) 125):=⟨_,rfl⟩
  rw [← hW] at hb0 hg2 hg3 hbs ⊢;have hWs : g + 2 = W.heap.size:=by rw [hW,← hg];simp
  rw [hg] at hb0 hg2 hg3 hq0 ⊢;clear hg hW;go_loopw [4,5,6,7,8,9] (fun _ _ _ _ _ n wr=>∃ k : Nat,k ≤ 64 ∧ n = .int .i64 k ∧ wr.heap[g + 1]? = some (.cells (wsC (wsU bs k)) 125 (0,0)) ∧ Keep [g + 1] W wr) (fun _ _ _ _ _ n _=>64 - (intOf n).toNat)
  case atStart=>exact ⟨0,Nat.zero_le _,rfl,hg3,Keep.refl _ _⟩
  case round =>
    obtain ⟨k,hk,rfl,hc,hkp⟩:=hrel;by_cases hlt : k < 64
    · by_cases h16 : k < 16
      · obtain ⟨m,hm⟩ : ∃ m : Nat,4 * k = m:=⟨_,rfl⟩
        have em : 4 * (k : Int) = (m : Int):=by omega
        have l0 : (m : Int) < 64:=by omega
        have t2 : ((m : Int) + 2).toNat = m + 2:=by omega
        have t3 : ((m : Int) + 3).toNat = m + 3:=by omega
        have w0 : IntKind.i64.wrap (m : Int) = m:=by simp [IntKind.wrap,IntKind.bits,IntKind.signed];omega
        have w1 : IntKind.i64.wrap ((m : Int) + 1) = (m : Int) + 1:=by simp [IntKind.wrap,IntKind.bits,IntKind.signed];omega
        have w2 : IntKind.i64.wrap ((m : Int) + 2) = (m : Int) + 2:=by simp [IntKind.wrap,IntKind.bits,IntKind.signed];omega
        have w3 : IntKind.i64.wrap ((m : Int) + 3) = (m : Int) + 3:=by simp [IntKind.wrap,IntKind.bits,IntKind.signed];omega
        have l1 : 0 ≤ (m : Int) + 1 ∧ (m : Int) + 1 < 64:=by omega
        have l2 : 0 ≤ (m : Int) + 2 ∧ (m : Int) + 2 < 64:=by omega
        have l3 : 0 ≤ (m : Int) + 3 ∧ (m : Int) + 3 < 64:=by omega
        have hck:=fun j (hj : j < 64)=>(hkp.cell (p:=⟨q,o + j,none⟩) (by show q < _;omega) (by simp;omega)).trans (hbs j hj);have x0:=hck m (by omega);have x1:=hck (m + 1) (by omega);have x2:=hck (m + 2) (by omega);have x3:=hck (m + 3) (by omega);have hmm:=Lib.hid hm;clear hck hm;go_upto_region 6 with fail
        refine wp_region_lexf (Kp ([] : List Nat) wr) false (by kernel_rfl) (by kernel_rfl) (by kernel_rfl) (by kernel_rfl) (kp_drew ([] : List Nat) wr) ?_;have hne:=kp_some ([] : List Nat) wr;have hS:=kp_drew ([] : List Nat) wr;have hqn : q ∉ ([] : List Nat):=by simp
        have b0:=ksub_cell x0 hqn;have b1:=ksub_cell x1 hqn;have b2:=ksub_cell x2 hqn;have b3:=ksub_cell x3 hqn;repeat (refine wpLx_loose ?_ ?_;(focus (simp only [chainOp];done));intro K hK;go_simp;refine hK _ ?_;clear hK K)
        have hnx : (bs.getD m 0).toUInt32 <<< 24 ||| (bs.getD (m + 1) 0).toUInt32 <<< 16 ||| (bs.getD (m + 2) 0).toUInt32 <<< 8 ||| (bs.getD (m + 3) 0).toUInt32 = nextU bs (schedU bs k) k:=by
          unfold nextU wordU byU;rw [if_pos h16,hmm.out]
        have hcd : wr.drew.heap[g + 1]? = some (.cells (wsC (wsU bs k)) 125 (0,0)):=hc;have x9 : wr.drew.cell? ⟨g + 1,k,none⟩ = some (.int .u32 (nU ((wsU bs k).getD k 0))):=by
          rw [cell_of_row wr.drew _ k _ _ _ hcd,wsC_get _ (by rw [wsU_length _ hk];exact hlt)]
        have f9 : wr.drew.frozen? ⟨g + 1,k,none⟩ = false:=by simp [World.frozen?,hcd]
        simp only [List.getD_eq_getElem?_getD] at hnx;have Hnx:=Lib.hid hnx;clear hnx em hmm b0 b1 b2 b3 x0 x1 x2 x3;refine wpLx_end ?_ ?_;(focus (simp only [chainOp];done));intro K hK;go_simp;rw [Hnx.out];refine hK _ _ ?_;clear hK K;have hc2:=heap_setCell_same hcd k (.int .u32 (nU (nextU bs (schedU bs k) k)));rw [wsC_set,wsU_set bs hlt] at hc2;have hk2 : Keep [g + 1] W (wr.drew.setCell ⟨g + 1,k,none⟩ (.int .u32 (nU (nextU bs (schedU bs k) k)))):=Keep.trans (Keep.trans hkp (Keep.drew wr) (by simp)) (Keep.setCell wr.drew ⟨g + 1,k,none⟩ _) (by simp);clear hne hS hqn x9 f9 hc hcd hkp Hnx;(go_wp2_with fail);go_roundw
        case rel=>exact ⟨k + 1,by omega,by go_num,hc2,hk2⟩
        case measure=>simp [intOf];omega
      · have gt : ∀ j : Nat,j < k → wr.drew.cell? ⟨g + 1,j,none⟩ = some (.int .u32 (nU ((schedU bs k).getD j 0))) ∧ wr.cell? ⟨g + 1,j,none⟩ = some (.int .u32 (nU ((schedU bs k).getD j 0))):=fun j hj=>by
          have hcd : wr.drew.heap[g + 1]? = some (.cells (wsC (wsU bs k)) 125 (0,0)):=hc;rw [cell_of_row wr.drew _ j _ _ _ hcd,cell_of_row wr _ j _ _ _ hc,wsC_get _ (by rw [wsU_length _ hk];omega),wsU_get bs hj];exact ⟨rfl,rfl⟩
        obtain ⟨a,ha⟩ : ∃ a : Nat,k = a + 16:=⟨k - 16,by omega⟩
        obtain ⟨a5,ha5⟩ : ∃ a5 : Nat,a + 1 = a5:=⟨_,rfl⟩
        obtain ⟨a2,ha2⟩ : ∃ a2 : Nat,a + 14 = a2:=⟨_,rfl⟩
        obtain ⟨a7,ha7⟩ : ∃ a7 : Nat,a + 9 = a7:=⟨_,rfl⟩
        have s15 : (k : Int) - 15 = (a5 : Int):=by omega
        have w15 : IntKind.i64.wrap (a5 : Int) = (a5 : Int):=by simp [IntKind.wrap,IntKind.bits,IntKind.signed];omega
        have l15 : (a5 : Int) < 64:=by omega
        have x15:=(gt a5 (by omega)).2;have s2 : (k : Int) - 2 = (a2 : Int):=by omega
        have w2 : IntKind.i64.wrap (a2 : Int) = (a2 : Int):=by simp [IntKind.wrap,IntKind.bits,IntKind.signed];omega
        have l2 : (a2 : Int) < 64:=by omega
        have x2:=(gt a2 (by omega)).2;have s16 : (k : Int) - 16 = (a : Int):=by omega
        have w16 : IntKind.i64.wrap (a : Int) = (a : Int):=by simp [IntKind.wrap,IntKind.bits,IntKind.signed];omega
        have l16 : (a : Int) < 64:=by omega
        have x16:=(gt a (by omega)).1;have s7 : (k : Int) - 7 = (a7 : Int):=by omega
        have w7 : IntKind.i64.wrap (a7 : Int) = (a7 : Int):=by simp [IntKind.wrap,IntKind.bits,IntKind.signed];omega
        have l7 : (a7 : Int) < 64:=by omega
        have x7:=(gt a7 (by omega)).1;have hnx : (schedU bs k).getD a 0 + sg0 ((schedU bs k).getD a5 0) + (schedU bs k).getD a7 0 + sg1 ((schedU bs k).getD a2 0) = nextU bs (schedU bs k) k:=by
          unfold nextU;rw [if_neg h16,show k - 16 = a by omega,show k - 15 = a5 by omega,show k - 7 = a7 by omega,show k - 2 = a2 by omega]
        obtain ⟨z15,h15⟩ : ∃ z,(schedU bs k).getD a5 0 = z:=⟨_,rfl⟩
        obtain ⟨z2,h2⟩ : ∃ z,(schedU bs k).getD a2 0 = z:=⟨_,rfl⟩
        obtain ⟨z16,h3⟩ : ∃ z,(schedU bs k).getD a 0 = z:=⟨_,rfl⟩
        obtain ⟨z7,h4⟩ : ∃ z,(schedU bs k).getD a7 0 = z:=⟨_,rfl⟩
        rw [h15] at x15 hnx;rw [h2] at x2 hnx;rw [h3] at x16 hnx;rw [h4] at x7 hnx;unfold sg0 sg1 at hnx;have Hnx:=Lib.hid hnx;clear gt hnx h15 h2 h3 h4 ha ha5 ha2 ha7;go_upto_region 7 with fail
        have hqn : g + 1 ∉ ([] : List Nat):=by simp
        refine wp_region_lex (Kp ([] : List Nat) wr) false (by kernel_rfl) (by kernel_rfl) (by kernel_rfl) (kp_drew ([] : List Nat) wr) ?_;have hne:=kp_some ([] : List Nat) wr;have hS:=kp_drew ([] : List Nat) wr;have b0:=ksub_cell x15 hqn;have b1:=ksub_cell x2 hqn;repeat (refine wpLx_loose ?_ ?_;(focus (simp only [chainOp];done));intro K hK;go_simp;refine hK _ ?_;clear hK K)
        refine wpLx_nil ?_;intro hS;clear hne hS b0 b1 x15 x2;have q3:=dn3 z15;have q10:=dn10 z2;have c1:=fun w=>down_any z15 7 (by omega) (by omega) w;have c2:=fun w=>down_any z15 18 (by omega) (by omega) w;have c3:=fun w=>down_any z2 17 (by omega) (by omega) w;have c4:=fun w=>down_any z2 19 (by omega) (by omega) w;(go_wp2_with fail);refine (c1 _).mono ?_;rintro e w1 ⟨rfl,rfl⟩;(go_wp2_with fail);refine (c2 _).mono ?_;rintro e w1 ⟨rfl,rfl⟩;(go_wp2_with fail);refine (c3 _).mono ?_;rintro e w1 ⟨rfl,rfl⟩;(go_wp2_with fail);refine (c4 _).mono ?_;rintro e w1 ⟨rfl,rfl⟩;clear c1 c2 c3 c4;go_upto_region 10 with fail
        refine wp_region_lexf (Kp ([] : List Nat) wr.drew) false (by kernel_rfl) (by kernel_rfl) (by kernel_rfl) (by kernel_rfl) (kp_drew ([] : List Nat) wr.drew) ?_;have hne:=kp_some ([] : List Nat) wr.drew;have hS:=kp_drew ([] : List Nat) wr.drew;have b0:=ksub_cell x16 hqn;have b1:=ksub_cell x7 hqn;have hcd : wr.drew.drew.heap[g + 1]? = some (.cells (wsC (wsU bs k)) 125 (0,0)):=hc;have x9 : wr.drew.drew.cell? ⟨g + 1,k,none⟩ = some (.int .u32 (nU ((wsU bs k).getD k 0))):=by
          rw [cell_of_row wr.drew.drew _ k _ _ _ hcd,wsC_get _ (by rw [wsU_length _ hk];exact hlt)]
        have f9 : wr.drew.drew.frozen? ⟨g + 1,k,none⟩ = false:=by simp [World.frozen?,hcd]
        repeat (refine wpLx_loose ?_ ?_;(focus (simp only [chainOp];done));intro K hK;go_simp;refine hK _ ?_;clear hK K)
        refine wpLx_end ?_ ?_;(focus (simp only [chainOp];done));intro K hK;go_simp;rw [Hnx.out];refine hK _ _ ?_;clear hK K;have hc2:=heap_setCell_same hcd k (.int .u32 (nU (nextU bs (schedU bs k) k)));rw [wsC_set,wsU_set bs hlt] at hc2;have hk2 : Keep [g + 1] W (wr.drew.drew.setCell ⟨g + 1,k,none⟩ (.int .u32 (nU (nextU bs (schedU bs k) k)))):=Keep.trans (Keep.trans hkp ((Keep.drew wr).trans (Keep.drew wr.drew) (by simp)) (by simp)) (Keep.setCell wr.drew.drew ⟨g + 1,k,none⟩ _) (by simp);clear hne hS hqn x9 f9 hc hcd hkp Hnx b0 b1 x16 x7;(go_wp2_with fail);go_roundw
        case rel=>exact ⟨k + 1,by omega,by go_num,hc2,hk2⟩
        case measure=>simp [intOf];omega
    · have hk64 : k = 64:=by omega
      subst hk64;rw [wsU_all] at hc;have hrow : rowAt wr (g + 1) 0 64 = some (wsC (schedU bs 64)):=by unfold rowAt;rw [hc];simp [go_sem,schedU_length]
      have hg2':=(hkp.block g (by omega) (by simp)).trans hg2;have hsto:=run_stS_at (P:=Tryz.prog) infoW64 wr g (wsC (zU 64)) (wsC (schedU bs 64)) _ hg2' (by simp [zU_length]) (by simp [schedU_length]) (wsC_one _);have Hfin:=Lib.hid (setRow_heap wr g _ (wsC (schedU bs 64)) _ _ hg2');have hkf : Keep [g] wr (wr.setRow g (wsC (schedU bs 64))):=⟨rfl,rfl,rfl,by simp [World.setRow],fun x _ hx=>setRow_other wr g x _ (by simpa using hx)⟩
      have hkz:=Keep.trans (hkp.mono (S':=[g,g + 1]) (by simp)) (hkf.mono (S':=[g,g + 1]) (by simp)) (fun x hx=>.inl hx);have hbz : Below g w (wr.setRow g (wsC (schedU bs 64))):=hb0.trans (hkz.below (by omega) (by simp));have Hbz:=Lib.hid hbz;clear hkf hkz hbz hg2' hg2 hg3 hbs hb0 hkp;(go_wp2_with fail);exact bodyPost_ret (results_cell_row Tryz.results115 _ _ g 125 (wsC (schedU bs 64)) (0,0) _ rfl Hfin.out Tryz.underlying125 rfl (by rw [wsC_size,schedU_length];exact infoW64)) rfl ⟨rfl,by rw [Hg.out];exact Hbz.out⟩
end
section
open Go.RowKit
@[go_sem] theorem notU (x : UInt32) : bits .xor .u32 (if IntKind.u32.signed = true then -1 else IntKind.u32.max) (nU x) = nU (~~~x):=u_not x
structure ShaVars (w : World) : Prop where
  first : ∀ k,k < 8 → w.cell? ⟨0,k,none⟩ = some (.int .u32 (nU (hU.getD k 0)))
  k : ∀ k,k < 64 → w.cell? ⟨1,k,none⟩ = some (.int .u32 (nU (kU.getD k 0)))
theorem ShaVars.ltF {w : World} (h : ShaVars w) : 0 < w.heap.size:=World.block_lt_of_cell? w _ (h.first 0 (by omega))
theorem ShaVars.ltK {w : World} (h : ShaVars w) : 1 < w.heap.size:=World.block_lt_of_cell? w _ (h.k 0 (by omega))
theorem ShaVars.kept {w w' : World} {S : List Nat} (h : ShaVars w) (k : Keep S w w') (h0 : 0 ∉ S) (h1 : 1 ∉ S) : ShaVars w' :=
  ⟨fun i hi=>(k.cell (p:=⟨0,i,none⟩) h.ltF h0).trans (h.first i hi),fun i hi=>(k.cell (p:=⟨1,i,none⟩) h.ltK h1).trans (h.k i hi)⟩
theorem ShaVars.below {w w' : World} (h : ShaVars w) (hb : Below w.heap.size w w') : ShaVars w':=h.kept (Keep.of_below hb) (by simp) (by simp)
def StU.l (s : StU) : List UInt32:=[s.a,s.b,s.c,s.d,s.e,s.f,s.g,s.h]
theorem StU.l_len (s : StU) : s.l.length = 8:=rfl
theorem mix_get {L M : List UInt32} (h : L.length = M.length) {k : Nat} (hk : k < M.length) : (L.take k ++ M.drop k).getD k 0 = M.getD k 0:=by
  rw [List.getD_eq_getElem?_getD,List.getD_eq_getElem?_getD,List.getElem?_append_right (by simp;omega),List.length_take,show min k L.length = k by omega,Nat.sub_self,List.getElem?_drop,Nat.add_zero]
theorem mix_set {L M : List UInt32} (h : L.length = M.length) {k : Nat} (hk : k < M.length) : (L.take k ++ M.drop k).set k (L.getD k 0) = L.take (k + 1) ++ M.drop (k + 1):=by
  have hL : k < L.length:=by omega
  have e1 : L.take (k + 1) = L.take k ++ [L[k]]:=by rw [List.take_add_one,List.getElem?_eq_getElem hL];rfl
  have e2 : L.getD k 0 = L[k]:=by rw [List.getD_eq_getElem?_getD,List.getElem?_eq_getElem hL];rfl
  rw [List.set_append_right _ _ (by simp;omega),List.length_take,show min k L.length = k by omega,Nat.sub_self,List.drop_eq_getElem_cons hk,List.set_cons_zero,e1,e2,List.append_assoc];rfl
theorem zip_get {s t : StU} {k : Nat} (hk : k < 8) : s.l.getD k 0 + t.l.getD k 0 = (addU s t).l.getD k 0:=by
  have h8 : k = 0 ∨ k = 1 ∨ k = 2 ∨ k = 3 ∨ k = 4 ∨ k = 5 ∨ k = 6 ∨ k = 7:=by omega
  rcases h8 with rfl | rfl | rfl | rfl | rfl | rfl | rfl | rfl <;> rfl
theorem app_cell {L : List UInt32} {R : Array Value} {w : World} {g T} (hb : w.heap[g]? = some (.cells (wsC L ++ R) T (0,0))) {k : Nat} (hk : k < L.length) : w.cell? ⟨g,k,none⟩ = some (.int .u32 (nU (L.getD k 0))):=by
  rw [cell_of_row w g k _ _ _ hb,Array.getElem?_append_left (by rw [wsC_size];exact hk),wsC_get L hk]
theorem app_set (L : List UInt32) (R : Array Value) (k : Nat) (hk : k < L.length) (x : UInt32) : (wsC L ++ R).setIfInBounds k (.int .u32 (nU x)) = wsC (L.set k x) ++ R:=by
  rw [← wsC_set,Array.setIfInBounds_append_left (by rw [wsC_size];exact hk)]
theorem sizeU32 (w : World) : (sizeOf 92).run Tryz.prog w = .ok 1 w:=by
  have h : (Tryz.prog.info? 92).map (·.size) = some 1:=by kernel_rfl
  cases hi : Tryz.prog.info? 92 with
  | none=>rw [hi] at h;cases h
  | some i =>
    rw [hi] at h;have hk : i.size = 1:=by simpa using h
    simp [sizeOf,typeInfo,hi,hk]
theorem index_w {t : TypeId} {n : Nat} (h : Tryz.prog.underlying t = some (.array n 92)) {cs : Array Value} {k : Nat} (hk : k < n) {v : Value} (hc : cs[k]? = some v) (w : World) :
    (Instr.index t (.agg cs) (.int .i64 k)).run Tryz.prog w = .ok v w:=by
  have h1 : (part 92 cs k).run Tryz.prog w = .ok v w:=run_part_plain w (by kernel_rfl) hc;have h2 : (0 : Int) ≤ (k : Int) ∧ (k : Int) < (n : Int):=⟨by omega,by omega⟩
  simp [Instr.index,asIntOf,run_underlying h,hk,sizeU32,h1]
set_option maxRecDepth 100000 in
set_option maxHeartbeats 4000000 in
theorem turn_any (w : World) (g : Nat) (T : TypeId) (s : StU) (R : Array Value) (A : Option Addr) (cap : Nat) (bs : List UInt8) (hv : ShaVars w) (hg : w.heap[g]? = some (.cells (wsC s.l ++ R) T (0,0))) (h : BytesIn w A 64 bs) (hgf : g ≠ 0) (hgk : g ≠ 1) :
    Calls Tryz.prog 84 #[.pointer (some ⟨g,0,none⟩),.slice A 64 cap] w fun e w'=>e = .returned (.tuple #[]) ∧ w'.heap[g]? = some (.cells (wsC (turnU s bs).l ++ R) T (0,0)) ∧ Keep [g] w w':=by
  have hgl : g < w.heap.size:=(Array.getElem?_eq_some_iff.1 hg).1;have c0:=sched_any w A cap bs h;have hws:=schedU_length bs 64;obtain ⟨ws,hwse⟩ : ∃ ws,schedU bs 64 = ws:=⟨_,rfl⟩
  have htu : turnU s bs = addU s (rndsU ws s 64):=by rw [← hwse];rfl
  rw [hwse] at c0 hws;rw [htu];have Hws:=Lib.hid hws;clear hwse htu h hws;go_enter Tryz.func84,Tryz.ntmps84
  (go_wp2_with fail);refine c0.mono ?_;rintro e w1 ⟨rfl,hb1⟩;have hv2:=hv.below (hb1.alloc (by have:=hb1.size;omega) (.cells (wsC ws) 125));have hb2 : Below w.heap.size w (w1.alloc (.cells (wsC ws) 125)):=hb1.alloc hb1.size _;have hn:=heap_alloc_new w1 (.cells (wsC ws) 125);have hst:=storeW64_run w1 w1.heap.size rfl (wsC (zU 64)) (by simp [zU_length]) ws Hws.out 125;have hsz:=hb1.size;have hgW:=(hb2.block g hgl).trans hg;clear c0 hv;go_upto_region 1 with fail
  obtain ⟨ga,hga⟩ : ∃ ga,w1.heap.size = ga:=⟨_,rfl⟩
  obtain ⟨W,hW⟩ : ∃ W,W = w1.alloc (.cells (wsC ws) 125):=⟨_,rfl⟩
  rw [hga] at hn hsz ⊢;rw [← hW] at hn hb2 hv2 hgW ⊢;have hgaW : ga < W.heap.size:=(Array.getElem?_eq_some_iff.1 hn).1;clear hst hW hga hb1 hg;have xs:=fun k (hk : k < 8)=>app_cell hgW (k:=k) hk;have x0:=xs 0 (by omega);have x1:=xs 1 (by omega);have x2:=xs 2 (by omega);have x3:=xs 3 (by omega);have x4:=xs 4 (by omega);have x5:=xs 5 (by omega);have x6:=xs 6 (by omega);have x7:=xs 7 (by omega);simp only [StU.l,List.getD_cons_zero,List.getD_cons_succ] at x0 x1 x2 x3 x4 x5 x6 x7;have hqn : g ∉ ([] : List Nat):=by simp
  refine wp_region_lex (Kp ([] : List Nat) W) false (by kernel_rfl) (by kernel_rfl) (by kernel_rfl) (kp_drew ([] : List Nat) W) ?_;have hne:=kp_some ([] : List Nat) W;have hS:=kp_drew ([] : List Nat) W;have b0:=ksub_cell x0 hqn;have b1:=ksub_cell x1 hqn;have b2:=ksub_cell x2 hqn;have b3:=ksub_cell x3 hqn;have b4:=ksub_cell x4 hqn;have b5:=ksub_cell x5 hqn;have b6:=ksub_cell x6 hqn;have b7:=ksub_cell x7 hqn;repeat (refine wpLx_loose ?_ ?_;(focus (simp only [chainOp];done));intro K hK;go_simp;refine hK _ ?_;clear hK K)
  refine wpLx_nil ?_;intro hS;clear hne b0 b1 b2 b3 b4 b5 b6 b7 x0 x1 x2 x3 x4 x5 x6 x7 xs;have hvd : ShaVars W.drew:=hv2.kept hS (by simp) (by simp);have hnd : W.drew.heap[ga]? = some (.cells (wsC ws) 125 (0,0)):=hn;have hgd : W.drew.heap[g]? = some (.cells (wsC s.l ++ R) T (0,0)):=hgW;have hbd : Below w.heap.size w W.drew:=hb2.drew;clear hS hv2 hn hgW hb2;obtain ⟨V,hV⟩ : ∃ V,V = W.drew:=⟨_,rfl⟩
  have hgaV : ga < V.heap.size:=by rw [hV];exact hgaW
  rw [← hV] at hvd hnd hgd hbd ⊢;clear hV hgaW;(go_wp2_with fail);go_loopw [5,6,7,8,9,10,11,12,13,14,15,52] (fun ra rb rc rd re rf rg rh _ _ _ n wr=>∃ (k : Nat) (z : StU),k ≤ 64 ∧ n = .int .i64 k ∧ Hid (rndsU ws s k = z) ∧ ra = .int .u32 (nU z.a) ∧ rb = .int .u32 (nU z.b) ∧ rc = .int .u32 (nU z.c) ∧ rd = .int .u32 (nU z.d) ∧ re = .int .u32 (nU z.e) ∧ rf = .int .u32 (nU z.f) ∧ rg = .int .u32 (nU z.g) ∧ rh = .int .u32 (nU z.h) ∧ Keep [] V wr) (fun _ _ _ _ _ _ _ _ _ _ _ n _=>64 - (intOf n).toNat)
  case atStart=>exact ⟨0,s,by omega,rfl,(show _ = _ from rfl),rfl,rfl,rfl,rfl,rfl,rfl,rfl,rfl,Keep.refl _ _⟩
  case round =>
    obtain ⟨k,z,hk,rfl,hz,rfl,rfl,rfl,rfl,rfl,rfl,rfl,rfl,hkp⟩:=hrel;by_cases hlt : k < 64
    · have hzn : rndsU ws s (k + 1) = rndU z (kU.getD k 0) (ws.getD k 0):=by rw [rndsU,hz.out]
      have Hzn:=Lib.hid hzn;obtain ⟨za,zb,zc,zd,ze,zf,zg,zh⟩:=z;have hvr:=hvd.kept hkp (by simp) (by simp);have hnr:=(hkp.block ga hgaV (by simp)).trans hnd;have y0:=hvr.k k hlt;have y1 : wr.cell? ⟨ga,k,none⟩ = some (.int .u32 (nU (ws.getD k 0))):=by rw [cell_of_row wr ga k _ _ _ hnr,wsC_get ws (by rw [Hws.out];exact hlt)]
      obtain ⟨kv,hkv⟩ : ∃ kv,kU.getD k 0 = kv:=⟨_,rfl⟩
      obtain ⟨wv,hwv⟩ : ∃ wv,ws.getD k 0 = wv:=⟨_,rfl⟩
      rw [hkv] at y0 hzn;rw [hwv] at y1 hzn;have Hzn:=Lib.hid hzn;have c6:=fun w=>down_any ze 6 (by omega) (by omega) w;have c11:=fun w=>down_any ze 11 (by omega) (by omega) w;have c25:=fun w=>down_any ze 25 (by omega) (by omega) w;have c2:=fun w=>down_any za 2 (by omega) (by omega) w;have c13:=fun w=>down_any za 13 (by omega) (by omega) w;have c22:=fun w=>down_any za 22 (by omega) (by omega) w;clear hzn hkv hwv hvr hnr;go_upto_region 5 with fail
      have hq1 : 1 ∉ ([] : List Nat):=by simp
      have hq2 : ga ∉ ([] : List Nat):=by simp
      refine wp_region_lex (Kp ([] : List Nat) wr) false (by kernel_rfl) (by kernel_rfl) (by kernel_rfl) (kp_drew ([] : List Nat) wr) ?_;have hne:=kp_some ([] : List Nat) wr;have hS:=kp_drew ([] : List Nat) wr;have b0:=ksub_cell y0 hq1;have b1:=ksub_cell y1 hq2;repeat (refine wpLx_loose ?_ ?_;(focus (simp only [chainOp];done));intro K hK;go_simp;refine hK _ ?_;clear hK K)
      refine wpLx_chain ?_ ?_ ?_;(focus (exact hS));(focus (simp only [chainOp];done));intro K hK;go_simp;refine (c6 _).mono ?_;rintro e w' ⟨rfl,rfl⟩;refine ⟨_,rfl,hS,hK _ _ ?_⟩;clear hK K;repeat (refine wpLx_loose ?_ ?_;(focus (simp only [chainOp];done));intro K hK;go_simp;refine hK _ ?_;clear hK K)
      refine wpLx_chain ?_ ?_ ?_;(focus (exact hS));(focus (simp only [chainOp];done));intro K hK;go_simp;refine (c11 _).mono ?_;rintro e w' ⟨rfl,rfl⟩;refine ⟨_,rfl,hS,hK _ _ ?_⟩;clear hK K;repeat (refine wpLx_loose ?_ ?_;(focus (simp only [chainOp];done));intro K hK;go_simp;refine hK _ ?_;clear hK K)
      refine wpLx_chain ?_ ?_ ?_;(focus (exact hS));(focus (simp only [chainOp];done));intro K hK;go_simp;refine (c25 _).mono ?_;rintro e w' ⟨rfl,rfl⟩;refine ⟨_,rfl,hS,hK _ _ ?_⟩;clear hK K;repeat (refine wpLx_loose ?_ ?_;(focus (simp only [chainOp];done));intro K hK;go_simp;refine hK _ ?_;clear hK K)
      refine wpLx_nil ?_;intro hS;clear hne b0 b1 y0 y1 c6 c11 c25;have hkd : Keep [] V wr.drew:=Keep.trans hkp hS (by simp);obtain ⟨wd,hwd⟩ : ∃ wd,wd = wr.drew:=⟨_,rfl⟩
      rw [← hwd] at hkd ⊢;clear hS hwd hkp;(go_wp2_with fail);refine (c2 _).mono ?_;rintro e w2 ⟨rfl,rfl⟩;(go_wp2_with fail);refine (c13 _).mono ?_;rintro e w2 ⟨rfl,rfl⟩;(go_wp2_with fail);refine (c22 _).mono ?_;rintro e w2 ⟨rfl,rfl⟩;clear c2 c13 c22;(go_wp2_with fail);go_roundw
      case rel=>exact ⟨k + 1,_,by omega,by go_num,(show _ = _ from Hzn.out),rfl,rfl,rfl,rfl,rfl,rfl,rfl,rfl,hkd⟩
      case measure=>simp [intOf];omega
    · have hk64 : k = 64:=by omega
      have hz64 : rndsU ws s 64 = z:=hk64 ▸ hz.out;have Hz:=Lib.hid hz64;clear hz64 hk64;have hgr:=(hkp.block g (by omega) (by simp)).trans hgd;have hbr : Below w.heap.size w wr:=hbd.trans (hkp.below hbd.size (by simp));clear hz hk hvd hnd hgd;have hwA : Below w.heap.size w wr:=hbr;clear hkp hbd;go_upto_region 10 with fail
      have hgl2 : g < wr.heap.size:=(Array.getElem?_eq_some_iff.1 hgr).1;obtain ⟨V2,hV2⟩ : ∃ V2,V2 = wr:=⟨wr,rfl⟩
      have Hz2:=Lib.hid (show [z.a,z.b,z.c,z.d,z.e,z.f,z.g,z.h] = z.l from rfl);go_loopw [16,17,124] (fun _ _ n wr=>∃ k : Nat,k ≤ 8 ∧ n = .int .i64 k ∧ wr.heap[g]? = some (.cells (wsC ((addU s z).l.take k ++ s.l.drop k) ++ R) T (0,0)) ∧ Keep [g] V2 wr) (fun _ _ n _=>8 - (intOf n).toNat)
      case atStart=>exact ⟨0,by omega,rfl,(by rw [hgr];rfl),by rw [hV2];exact Keep.refl _ _⟩
      case round =>
        clear hgr;obtain ⟨k,hk,rfl,hgr,hkp⟩:=hrel;by_cases hlt : k < 8
        · have hml : ((addU s z).l.take k ++ s.l.drop k).length = 8:=by simp [StU.l_len];omega
          have y0:=app_cell hgr (k:=k) (by rw [hml];exact hlt);rw [mix_get (L:=(addU s z).l) (M:=s.l) rfl hlt] at y0;have y1 : (wsC [z.a,z.b,z.c,z.d,z.e,z.f,z.g,z.h])[k]? = some (.int .u32 (nU (z.l.getD k 0))):=wsC_get z.l hlt;have hset:=app_set ((addU s z).l.take k ++ s.l.drop k) R k (by rw [hml];exact hlt) ((addU s z).l.getD k 0);rw [mix_set (L:=(addU s z).l) (M:=s.l) rfl hlt] at hset;have hz8:=zip_get (s:=s) (t:=z) hlt;obtain ⟨c1,hc1⟩ : ∃ c1,s.l.getD k 0 = c1:=⟨_,rfl⟩
          obtain ⟨c2,hc2⟩ : ∃ c2,z.l.getD k 0 = c2:=⟨_,rfl⟩
          rw [hc1,hc2] at hz8;rw [hc1] at y0;rw [hc2] at y1;rw [← hz8] at hset;have Hset:=Lib.hid hset;have hix : (Instr.index 93 (.agg #[.int .u32 (nU z.a),.int .u32 (nU z.b),.int .u32 (nU z.c),.int .u32 (nU z.d),.int .u32 (nU z.e),.int .u32 (nU z.f),.int .u32 (nU z.g),.int .u32 (nU z.h)]) (.int .i64 k)).run Tryz.prog wr = .ok (.int .u32 (nU c2)) wr:=index_w (t:=93) Tryz.underlying93 hlt y1 wr;clear hset hz8 hc1 hc2 hml;go_upto_region 12 with fail
          refine wp_region_lexf (Kp ([] : List Nat) wr) false (by kernel_rfl) (by kernel_rfl) (by kernel_rfl) (by kernel_rfl) (kp_drew ([] : List Nat) wr) ?_;have hne:=kp_some ([] : List Nat) wr;have hS:=kp_drew ([] : List Nat) wr;have b0:=ksub_cell y0 hqn;have hgd : wr.drew.heap[g]? = some (.cells (wsC ((addU s z).l.take k ++ s.l.drop k) ++ R) T (0,0)):=hgr;have x9 : wr.drew.cell? ⟨g,k,none⟩ = some (.int .u32 (nU c1)):=y0;have f9 : wr.drew.frozen? ⟨g,k,none⟩ = false:=by simp [World.frozen?,hgd]
          repeat (refine wpLx_loose ?_ ?_;(focus (simp only [chainOp];done));intro K hK;go_simp;refine hK _ ?_;clear hK K)
          refine wpLx_end ?_ ?_;(focus (simp only [chainOp];done));intro K hK;go_simp;refine hK _ _ ?_;clear hK K;have hg2:=heap_setCell_same hgd k (.int .u32 (nU (c1 + c2)));rw [Hset.out] at hg2;have hk2 : Keep [g] V2 (wr.drew.setCell ⟨g,k,none⟩ (.int .u32 (nU (c1 + c2)))):=Keep.trans (Keep.trans hkp (Keep.drew wr) (by simp)) (Keep.setCell wr.drew ⟨g,k,none⟩ _) (by simp);clear hne hS x9 f9 hgr hgd hkp b0 y0 y1 hix Hset;(go_wp2_with fail);go_roundw
          case rel=>exact ⟨k + 1,by omega,by go_num,hg2,hk2⟩
          case measure=>simp [intOf];omega
        · have hk8 : k = 8:=by omega
          have e8 : (addU s z).l.take k ++ s.l.drop k = (addU s z).l:=by rw [hk8];rfl
          rw [e8,← Hz.out] at hgr;have HgR:=Lib.hid hgr;have hkz : Keep [g] w wr:=Keep.trans ((Keep.of_below hwA).mono (S':=[g]) (by simp)) (by rw [← hV2];exact hkp) (by simp);clear hgr hkp e8 hk8 hV2;(go_wp2_with fail);go_end0;exact ⟨rfl,HgR.out,hkz⟩
end
section
open Go.RowKit
theorem bytesR_len (a : List UInt8) : (bytesR a).length = a.length:=List.length_map _
theorem bytesR_one (a : List UInt8) : ∀ r ∈ bytesR a,∀ u ∈ r.toList,u.oneCell' = true:=by
  intro r hr u hu;simp [bytesR] at hr;obtain ⟨c,_,rfl⟩:=hr;simp [byteR] at hu;subst hu;rfl
theorem bs0_u8 (w : World) : (Instr.buildSlice 89 0 #[]).run Tryz.prog w = .ok (.slice (some ⟨w.heap.size,0,none⟩) 0 0) (w.alloc (.cells #[] 5)):=by kernel_rfl
theorem bs1_b (w : World) (c : Int) : (Instr.buildSlice 89 1 #[(0,.int .u8 c)]).run Tryz.prog w = .ok (.slice (some ⟨w.heap.size,0,none⟩) 1 1) (w.alloc (.cells #[.int .u8 c] 5)):=by kernel_rfl
theorem lenU_take {n i : Nat} (hn : n ≤ 1000000) (hi : i < 8) : (lenU n).take (i + 1) = (lenU n).take i ++ [UInt8.ofNat (n * 8 / 2 ^ (8 * (7 - i)))]:=by
  have hl : i < (lenU n).length:=by rw [lenU_length];exact hi
  rw [List.take_add_one,List.getElem?_eq_getElem hl];congr 1
  simp [lenU];rw [Nat.mod_eq_of_lt (by omega)]
def slLen : Value → Nat | .slice _ n _=>n | _=>0
set_option maxRecDepth 100000 in
set_option maxHeartbeats 4000000 in
theorem sha_end (w : World) (A : Option Addr) (m cap : Nat) (rest : List UInt8) (h : SlW w A m cap 1 (bytesR rest)) (N : Nat) (hN : N ≤ 1000000) (hm : m = N % 64) :
    Calls Tryz.prog 85 #[.slice A m cap,.int .i64 N] w fun e w'=>∃ A' cap',e = .returned (.slice A' (m + (padU N).length) cap') ∧ Own w' w.heap.size 5 1 A' (m + (padU N).length) cap' (bytesR (rest ++ padU N)) ∧ Below w.heap.size w w':=by
  have hlen : rest.length = m:=by have:=h.len;rwa [bytesR_len] at this
  have hm64 : m < 64:=by omega
  have Hlen:=Lib.hid hlen;have Hm:=Lib.hid hm;have q0:=bs0_u8 w;have hb0 : Below w.heap.size w (w.alloc (.cells #[] 5)):=(Below.refl _ _).alloc (Nat.le_refl _) _;have ho0:=Own.empty w w.heap.size 5 1 (Nat.le_refl _);have hs0:=h.rd.below hb0;clear hlen hm;go_enter Tryz.func85,Tryz.ntmps85
  go_wp2_with (at_builtin;first | (refine L_appends einfoByte rfl ho0 rfl hs0 h.nil (bytesR_one _) (by omega) (by omega) (by simp) ?_;intro A1 cap1 w1 ho1 hk1 hsub1;have q1:=bs1_b w1 128;simp only [Nat.zero_add,List.nil_append] at ho1;have ho2:=ho1.kept (Keep.alloc w1 (.cells #[.int .u8 128] 5)) (by simp);have hr2 : rowAt (w1.alloc (.cells #[.int .u8 128] 5)) w1.heap.size 0 1 = some (byteR 128):=(by simp [go_sem,byteR,byteC]);have hb1 : Below w.heap.size w w1:=hb0.trans (hk1.below (by simp) (by simp [blk]));have hsz1:=hb1.size;clear ho0) | (refine L_append einfoByte rfl ho2 rfl hr2 (by simp [byteR,byteC];rfl) (by omega) (by omega) (by simp;omega) ?_;intro A2 cap2 w2 ho3 hk2 hsub2))
  have hb2 : Below w.heap.size w w2:=hb1.trans ((Keep.trans ((Keep.alloc w1 _).mono (S':=blk A1) (by simp)) hk2 (fun x hx=>.inl hx)).below hsz1 (fun x hx=>(ho1.at_base hx).1));have hl3 : bytesR rest ++ [byteR 128] = bytesR (rest ++ [128]):=by simp [bytesR]
  rw [hl3] at ho3;have hsz2:=hb2.size;clear ho1 hk1 hsub1 q1 ho2 hr2 hb1 hsz1 hk2 hsub2 hl3 q0 hb0 hs0;obtain ⟨z,hz⟩ : ∃ z,(119 - N % 64) % 64 = z:=⟨_,rfl⟩
  have Hz:=Lib.hid hz;have hz64 : z < 64:=by omega
  have hmz : m + 1 + z = 56 ∨ m + 1 + z = 120:=by have:=Hm.out;omega
  have Hmz:=Lib.hid hmz;clear hz hmz;go_upto_region 2 with fail
  go_loopw [5] (fun sv wr=>∃ (j : Nat) (A3 : Option Addr) (cap3 : Nat),j ≤ z ∧ sv = .slice A3 (m + 1 + j) cap3 ∧ Own wr w.heap.size 5 1 A3 (m + 1 + j) cap3 (bytesR (rest ++ 128 :: List.replicate j 0)) ∧ Below w.heap.size w wr) (fun sv _=>200 - slLen sv)
  case atStart=>exact ⟨0,A2,cap2,by omega,rfl,ho3,hb2⟩
  case round =>
    obtain ⟨j,A3,cap3,hj,rfl,ho,hb⟩:=hrel;obtain ⟨ln,hln⟩ : ∃ ln,m + 1 + j = ln:=⟨_,rfl⟩
    rw [hln] at ho ⊢;have Hln:=Lib.hid hln;have hl2 : ln ≤ 128:=by omega
    clear hln;by_cases hlt : j < z
    · have e1 : ((ln : Int) % (64 : Int) != 56) = true:=by
        rw [bne_iff_ne];have:=Hmz.out;have:=Hln.out;omega
      have q1:=bs1_b wr 0;have ho2:=ho.kept (Keep.alloc wr (.cells #[.int .u8 0] 5)) (by simp);have hr2 : rowAt (wr.alloc (.cells #[.int .u8 0] 5)) wr.heap.size 0 1 = some (byteR 0):=(by simp [go_sem,byteR,byteC])
      have hsz1:=hb.size;go_wp2_with (at_builtin;refine L_append einfoByte rfl ho2 rfl hr2 (by simp [byteR,byteC];rfl) (by omega) (by omega) (by simp;omega) ?_;intro A4 cap4 w4 ho4 hk4 hsub4)
      have hb4 : Below w.heap.size w w4:=hb.trans ((Keep.trans ((Keep.alloc wr _).mono (S':=blk A3) (by simp)) hk4 (fun x hx=>.inl hx)).below hsz1 (fun x hx=>(ho.at_base hx).1));have hl4 : bytesR (rest ++ 128 :: List.replicate j 0) ++ [byteR 0] = bytesR (rest ++ 128 :: List.replicate (j + 1) 0):=by
        rw [List.replicate_succ'];simp [bytesR]
      rw [hl4] at ho4;clear hl4 hk4 hsub4 ho2 hr2 q1 ho hsz1 hb;go_roundw
      case rel=>exact ⟨j + 1,A4,cap4,by omega,(by rw [← Hln.out,Nat.add_assoc]),(by rw [show m + 1 + (j + 1) = ln + 1 by have:=Hln.out;omega];exact ho4),hb4⟩
      case measure=>simp [slLen];omega
    · have hjz : j = z:=by omega
      have e1 : ((ln : Int) % (64 : Int) != 56) = false:=by
        rw [bne_eq_false_iff_eq];have:=Hmz.out;have:=Hln.out;omega
      have hz' : rest ++ 128 :: List.replicate j 0 = rest ++ 128 :: List.replicate z 0:=by rw [hjz]
      rw [hz'] at ho;have hln2 : m + 1 + z = ln:=by rw [← Hln.out,hjz]
      have Hln2:=Lib.hid hln2;obtain ⟨D,hD⟩ : ∃ D,rest ++ 128 :: List.replicate z 0 = D:=⟨_,rfl⟩
      rw [hD] at ho;have HD:=Lib.hid hD;obtain ⟨V,hV⟩ : ∃ V,V = wr:=⟨wr,rfl⟩
      clear hjz hln2 hz' hD hj hlt;go_upto_region 6 with fail
      go_loopw [5,7,23] (fun sv _ iv wr=>∃ (i : Nat) (A5 : Option Addr) (cap5 : Nat),i ≤ 8 ∧ iv = .int .i64 i ∧ sv = .slice A5 (ln + i) cap5 ∧ Own wr w.heap.size 5 1 A5 (ln + i) cap5 (bytesR (D ++ (lenU N).take i)) ∧ Below w.heap.size w wr) (fun _ _ iv _=>8 - (intOf iv).toNat)
      case atStart=>exact ⟨0,A3,cap3,by omega,rfl,rfl,(by rw [List.take_zero,List.append_nil];exact ho),hb⟩
      case round =>
        clear ho hb;obtain ⟨i,A5,cap5,hi,rfl,rfl,ho,hb⟩:=hrel;by_cases hlt : i < 8
        · obtain ⟨c,hc⟩ : ∃ c,UInt8.ofNat (N * 8 / 2 ^ (8 * (7 - i))) = c:=⟨_,rfl⟩
          have htk:=lenU_take hN hlt;rw [hc] at htk;obtain ⟨r,hr⟩ : ∃ r : Nat,7 - i = r:=⟨_,rfl⟩
          have er : 7 - (i : Int) = (r : Int):=by omega
          have hr7 : r < 8:=by omega
          have eb : (N : Int) * (8 : Int) / 2 ^ (8 * r) % (256 : Int) = ((c.toNat : Nat) : Int):=by
            rw [← hc,hr];have h3 : ((N * 8 / 2 ^ (8 * r) : Nat) : Int) = (N : Int) * (8 : Int) / 2 ^ (8 * r):=by simp
            rw [← h3]
            simp
          have q1:=bs1_b wr ((c.toNat : Nat) : Int);have hr2 : rowAt (wr.alloc (.cells #[.int .u8 ((c.toNat : Nat) : Int)] 5)) wr.heap.size 0 1 = some (byteR c):=(by simp [go_sem,byteR,byteC])
          have ho2:=ho.kept (Keep.alloc wr (.cells #[.int .u8 ((c.toNat : Nat) : Int)] 5)) (by simp);have hsz1:=hb.size;have Htk:=Lib.hid htk;clear hc hr htk;go_wp2_with (at_builtin;refine L_append einfoByte rfl ho2 rfl hr2 (by simp [byteR,byteC];rfl) (by omega) (by omega) (by simp;omega) ?_;intro A6 cap6 w6 ho6 hk6 hsub6)
          have hb6 : Below w.heap.size w w6:=hb.trans ((Keep.trans ((Keep.alloc wr _).mono (S':=blk A5) (by simp)) hk6 (fun x hx=>.inl hx)).below hsz1 (fun x hx=>(ho.at_base hx).1));have hl6 : bytesR (D ++ (lenU N).take i) ++ [byteR c] = bytesR (D ++ (lenU N).take (i + 1)):=by rw [Htk.out];simp [bytesR]
          rw [hl6] at ho6;clear hl6 hk6 hsub6 ho2 hr2 q1 ho hsz1 hb Htk eb er;(go_wp2_with fail);go_roundw
          case rel=>exact ⟨i + 1,A6,cap6,by omega,by go_num,rfl,ho6,hb6⟩
          case measure=>simp [intOf];omega
        · have hi8 : i = 8:=by omega
          have hfull : D ++ (lenU N).take i = rest ++ padU N:=by
            rw [hi8,List.take_of_length_le (by rw [lenU_length];omega),← HD.out];unfold padU;rw [Hz.out];simp
          rw [hfull] at ho;have hlf : ln + i = m + (padU N).length:=by rw [padU_length,Hz.out,hi8];have:=Hln2.out;omega
          rw [hlf] at ho;have Ho:=Lib.hid ho;have Hlf:=Lib.hid hlf;clear hlf hfull ho hi8;(go_wp2_with fail);go_ret;exact ⟨A5,cap5,by rw [Hlf.out];rfl,Ho.out,hb⟩
end
section
open Go.RowKit
theorem mk2 (w : World) : (Instr.makeSlice 89 (.int .i64 2) (.int .i64 2)).run Tryz.prog w = .ok (.slice (some ⟨w.heap.size,0,none⟩) 2 2) (w.alloc (.cells #[.int .u8 0,.int .u8 0] 5)):=by kernel_rfl
set_option maxHeartbeats 1000000 in
set_option maxRecDepth 100000 in
theorem rnum2 (n : Nat) (w : World) (h : n < 65536) :
    Calls Tryz.prog 63 #[.int .i64 n,.int .i64 2] w fun e w'=>e = .returned (.tuple #[.string ⟨(beL 2 n).toArray⟩,.int .i64 0]) ∧ Below w.heap.size w w':=by
  have hd1 : decide ((n : Int) < 0) = false:=by simp
  have hd2 : decide (65536 ≤ (n : Int)) = false:=by simp;omega
  have hcv:=conv_bytes w (beL 2 n) 2 rfl #[.int .u8 ((n : Int) / 256 % 256),.int .u8 ((n : Int) % 256)] (by
    have e1 : (n : Int) / 256 = ((n / 256 : Nat) : Int):=by simp
    rw [e1,u8n,u8n,beL_snoc];simp [beL,byteC])
  obtain ⟨bs,hbs⟩ : ∃ bs,beL 2 n = bs:=⟨_,rfl⟩
  rw [hbs] at hcv ⊢;clear hbs;have hmk:=mk2;go_enter Tryz.func63,Tryz.ntmps63
  (go_wp2_with fail);refine wp_loop_rounds 2 ?_;rw [rounds_succ];(go_wp2_with fail);rw [rounds_succ];(go_wp2_with fail);refine wp_loop_rounds 3 ?_;rw [rounds_succ];(go_wp2_with fail);rw [rounds_succ];(go_wp2_with fail);rw [rounds_succ];(go_wp2_with fail);go_ret2;exact ⟨rfl,(Below.refl _ _).alloc (Nat.le_refl _) _⟩
theorem hnum (n M : Nat) (w : World) (hM : M = 1 ∨ M = 2 ∨ M = 4) (h : n < 256 ^ M) :
    Calls Tryz.prog 28 #[.int .i64 n,.int .i64 M] w fun e w'=>e = .returned (.string ⟨(beL M n).toArray⟩) ∧ Below w.heap.size w w':=by
  have c : Calls Tryz.prog 63 #[.int .i64 n,.int .i64 M] w fun e w'=>e = .returned (.tuple #[.string ⟨(beL M n).toArray⟩,.int .i64 0]) ∧ Below w.heap.size w w':=by
    rcases hM with rfl | rfl | rfl
    · exact rnum1 n w h
    · exact rnum2 n w h
    · exact rnum4 n w h
  obtain ⟨s,hs⟩ : ∃ s : ByteArray,(⟨(beL M n).toArray⟩ : ByteArray) = s:=⟨_,rfl⟩
  rw [hs] at c ⊢;clear hs hM h;go_enter Tryz.func28,Tryz.ntmps28
  (go_wp2_with fail);refine c.mono ?_;rintro e w1 ⟨rfl,hb⟩;(go_wp2_with fail);go_ret;exact ⟨rfl,hb⟩
theorem conv_own {w : World} {B : Nat} {A : Option Addr} {n cap : Nat} {bs : List UInt8} (h : Own w B 5 1 A n cap (bytesR bs)) (hn : n = bs.length) :
    (convert 89 9 (.slice A n cap)).run Tryz.prog w = .ok (.string ⟨bs.toArray⟩) w:=own_string h hn
set_option maxRecDepth 100000 in
set_option maxHeartbeats 1000000 in
theorem hraw (d : Id32) (w : World) :
    Calls Tryz.prog 29 #[.agg (idC d)] w fun e w'=>e = .returned (.string ⟨d.l.toArray⟩) ∧ Below w.heap.size w w':=by
  have hb0 : Below w.heap.size w (w.alloc (.cells (idC d) 24)):=(Below.refl _ _).alloc (Nat.le_refl _) _;have hid:=heap_alloc_new w (.cells (idC d) 24);go_enter Tryz.func29,Tryz.ntmps29
  go_upto_region 3 with fail
  obtain ⟨g,hg⟩ : ∃ g,w.heap.size = g:=⟨_,rfl⟩
  have Hg:=Lib.hid hg;obtain ⟨W,hW⟩ : ∃ W,W = w.alloc (.cells (idC d) 24):=⟨_,rfl⟩
  rw [← hW] at hb0 hid ⊢;rw [hg] at hb0 hid ⊢;have hgW : g < W.heap.size:=(Array.getElem?_eq_some_iff.1 hid).1;clear hg hW;go_loopw [3,4] (fun sv iv wr=>∃ (k : Nat) (A : Option Addr) (cap : Nat),k ≤ 32 ∧ iv = .int .i64 k ∧ sv = .slice A k cap ∧ Own wr (g + 1) 5 1 A k cap (bytesR (d.l.take k)) ∧ wr.heap[g]? = some (.cells (idC d) 24 (0,0)) ∧ Below g w wr ∧ g + 1 ≤ wr.heap.size) (fun _ iv _=>32 - (intOf iv).toNat)
  case atStart=>exact ⟨0,none,0,by omega,rfl,rfl,Own.nil _ _ _ _,hid,hb0,by omega⟩
  case round =>
    clear hid hb0;obtain ⟨k,A,cap,hk,rfl,rfl,ho,hid,hb,hsz⟩:=hrel;by_cases hlt : k < 32
    · have hdk : k < d.l.length:=by rw [d.h];exact hlt
      have x0 : wr.cell? ⟨g,k,none⟩ = some (.int .u8 ((d.l[k]).toNat : Int)):=by rw [cell_of_row wr g k _ _ _ hid];simp [idC,byteC,hdk]
      have htk : d.l.take (k + 1) = d.l.take k ++ [d.l[k]]:=by rw [List.take_add_one,List.getElem?_eq_getElem hdk];rfl
      obtain ⟨x,hx⟩ : ∃ x,d.l[k] = x:=⟨_,rfl⟩
      rw [hx] at x0 htk;have q1:=bs1_b wr ((x.toNat : Nat) : Int);have hr2 : rowAt (wr.alloc (.cells #[.int .u8 ((x.toNat : Nat) : Int)] 5)) wr.heap.size 0 1 = some (byteR x):=(by simp [go_sem,byteR,byteC])
      have ho2:=ho.kept (Keep.alloc wr (.cells #[.int .u8 ((x.toNat : Nat) : Int)] 5)) (by simp);have Htk:=Lib.hid htk;clear hx htk;go_wp2_with (at_builtin;refine L_append einfoByte rfl ho2 rfl hr2 (by simp [byteR,byteC];rfl) (by omega) (by omega) (by simp;omega) ?_;intro A6 cap6 w6 ho6 hk6 hsub6)
      have hkf : Keep (blk A) wr w6:=Keep.trans ((Keep.alloc wr _).mono (S':=blk A) (by simp)) hk6 (fun x hx=>.inl hx);have hb6 : Below g w w6:=hb.trans (hkf.below (by omega) (fun x hx=>by have:=(ho.at_base hx).1;omega));have hid6:=(hkf.block g (by omega) (fun hx=>by have:=(ho.at_base hx).1;omega)).trans hid;have hs6:=hkf.size;have hl6 : bytesR (d.l.take k) ++ [byteR x] = bytesR (d.l.take (k + 1)):=by rw [Htk.out];simp [bytesR]
      rw [hl6] at ho6;clear hl6 hk6 hsub6 ho2 hr2 q1 ho hb Htk hkf hid x0;(go_wp2_with fail);go_roundw
      case rel=>exact ⟨k + 1,A6,cap6,by omega,by go_num,rfl,ho6,hid6,hb6,by omega⟩
      case measure=>simp [intOf];omega
    · have hk32 : k = d.l.length:=by rw [d.h];omega
      have e : d.l.take k = d.l:=List.take_of_length_le (by omega);rw [e] at ho;have hcv:=conv_own ho hk32;clear e ho hid hk32;(go_wp2_with fail);go_ret;exact ⟨rfl,by rw [Hg.out];exact hb⟩
set_option maxRecDepth 100000 in
set_option maxHeartbeats 4000000 in
theorem rids_any (R : List Id32) (w : World) (A : Option Addr) (n c : Nat) (h : TagsIn w A n R) (hn : n ≤ 4) :
    Calls Tryz.prog 27 #[.slice A n c] w fun e w'=>∃ s : ByteArray,e = .returned (.string s) ∧ s.data.toList = beL 1 n ++ R.flatMap (·.l) ∧ s.size ≤ 200 ∧ Below w.heap.size w w':=by
  have c1:=rnum1 n w (by omega);have hlen:=h.len;have Hlen:=Lib.hid hlen;clear hlen;go_enter Tryz.func27,Tryz.ntmps27
  (go_wp2_with fail);refine c1.mono ?_;rintro e w1 ⟨rfl,hb1⟩;clear c1;obtain ⟨s0,hs0⟩ : ∃ s0 : ByteArray,(⟨(beL 1 n).toArray⟩ : ByteArray) = s0:=⟨_,rfl⟩
  have Hs0:=Lib.hid hs0;rw [hs0];clear hs0;go_upto_region 3 with fail
  go_loopw [3,5,6] (fun v i _ wr=>∃ (k : Nat) (s : ByteArray),k ≤ n ∧ i = .int .i64 k ∧ v = .string s ∧ s.size = 1 + 32 * k ∧ Hid (s.data.toList = beL 1 n ++ (R.take k).flatMap (·.l)) ∧ Below w.heap.size w wr) (fun _ i _ _=>n - (intOf i).toNat)
  case atStart=>exact ⟨0,s0,by omega,rfl,rfl,(by rw [← Hs0.out];rfl),(show s0.data.toList = _ by rw [← Hs0.out];simp),hb1⟩
  case round =>
    clear hb1;obtain ⟨k,s,hk,rfl,rfl,hsz,hs,hb⟩:=hrel;by_cases hlt : k < n
    · obtain ⟨q,o,rfl,hr⟩:=TagsIn.get (SlR.below h hb) hlt (by rw [Hlen.out];exact hlt);have htk : R.take (k + 1) = R.take k ++ [R[k]'(by rw [Hlen.out];exact hlt)]:=by rw [List.take_add_one,List.getElem?_eq_getElem (by rw [Hlen.out];exact hlt)];rfl
      obtain ⟨d,hd⟩ : ∃ d,R[k]'(by rw [Hlen.out];exact hlt) = d:=⟨_,rfl⟩
      rw [hd] at hr htk;have Htk:=Lib.hid htk;clear hd htk;obtain ⟨W,hW⟩ : ∃ W,W = wr:=⟨wr,rfl⟩
      go_upto_region 6 with fail
      go_loopw [3,6] (fun v i wr=>∃ (j : Nat) (t : ByteArray),j ≤ 32 ∧ i = .int .i64 j ∧ v = .string t ∧ t.size = 1 + 32 * k + j ∧ Hid (t.data.toList = beL 1 n ++ (R.take k).flatMap (·.l) ++ d.l.take j) ∧ Below W.heap.size W wr) (fun _ i _=>32 - (intOf i).toNat)
      case atStart=>exact ⟨0,s,by omega,rfl,rfl,hsz,(show _ = _ by rw [hs.out];simp),by rw [hW];exact Below.refl _ _⟩
      case round =>
        rw [← hW] at hr hb;clear hW hsz hs;obtain ⟨j,t,hj,rfl,rfl,hsz,hs,hbj⟩:=hrel;by_cases hlt2 : j < 32
        · have hr2:=(rowAt_of_block (hbj.block q (rowAt_lt hr)) _ _).trans hr;have hc:=rowAt_cell hr2 (j:=j) hlt2;have hdk : j < d.l.length:=by rw [d.h];exact hlt2
          have hce : (idC d)[j]? = some (.int .u8 (d.l[j]).toNat):=by simp [idC,byteC,hdk]
          rw [hce] at hc;have htj : d.l.take (j + 1) = d.l.take j ++ [d.l[j]]:=by rw [List.take_add_one,List.getElem?_eq_getElem hdk];rfl
          obtain ⟨x,hx⟩ : ∃ x,d.l[j] = x:=⟨_,rfl⟩
          rw [hx] at hc htj;have Htj:=Lib.hid htj;have hbs:=bs1_u8 wr (x.toNat : Int);have hcv:=conv_bytes wr [x] 1 rfl #[.int .u8 (x.toNat : Int)] rfl;have hbn : Below W.heap.size W (wr.alloc (.cells #[.int .u8 (x.toNat : Int)] 5)):=hbj.alloc hbj.size _;clear hce hx htj hr2;(go_wp2_with fail);go_roundw
          case rel=>exact ⟨j + 1,_,by omega,by go_num,rfl,(by rw [ByteArray.size_append,hsz];rfl),(show (t ++ ⟨#[x]⟩).data.toList = _ by rw [Htj.out,ByteArray.data_append,Array.toList_append,hs.out];simp),hbn⟩
          case measure=>simp [intOf];omega
        · have hj32 : j = 32:=by omega
          have e : d.l.take j = d.l:=List.take_of_length_le (by rw [d.h];omega);have hs':=hs.out;rw [e] at hs';have hsF : Hid (t.data.toList = beL 1 n ++ (R.take (k + 1)).flatMap (·.l)):=(show _ = _ by rw [hs',Htk.out];simp)
          have hbF : Below w.heap.size w wr:=bel2 hb hbj;have hszF : t.size = 1 + 32 * (k + 1):=by omega
          clear hs hs' e hsz hj32 hb hbj hr;(go_wp2_with fail);go_roundw
          case rel=>exact ⟨k + 1,t,by omega,by go_num,rfl,hszF,hsF,hbF⟩
          case measure=>simp [intOf];omega
    · have hkn : k = n:=by omega
      have e : R.take k = R:=List.take_of_length_le (by rw [Hlen.out];omega);have hs':=hs.out;rw [e] at hs';have Hs:=Lib.hid hs';have hle : s.size ≤ 200:=by omega
      have Hle:=Lib.hid hle;clear hs hs' hsz e hkn hle;(go_wp2_with fail);go_ret;exact ⟨s,rfl,Hs.out,Hle.out,hb⟩
end
section
open Go.RowKit
theorem rrotr (x : UInt32) (n : Nat) (h0 : 0 < n) (h1 : n < 32) (w : World) :
    Calls Tryz.prog 65 #[.int .u32 (nU x),.int .i64 n] w fun e w'=>e = .returned (.int .u32 (nU (rotU x n))) ∧ w = w':=by
  have hs : (32 : Int) - (n : Int) = ((32 - n : Nat) : Int):=by omega
  have hl : nU x * 2 ^ (32 - n) % (4294967296 : Int) = nU (x <<< UInt32.ofNat (32 - n)):=by
    rw [← u_shl _ _ (by omega),IntKind.wrap_u32']
  have hr : nU x / 2 ^ n = nU (x >>> UInt32.ofNat n):=u_shr x n h1;have hor : x >>> UInt32.ofNat n ||| x <<< UInt32.ofNat (32 - n) = rotU x n:=rfl
  have Hor:=Lib.hid hor;have l1 : (n : Int) ≤ 32:=by omega
  have l2 : ((32 - n : Nat) : Int) ≤ 32:=by omega
  clear hor h0 h1;go_enter Tryz.func65,Tryz.ntmps65
  (go_wp2_with fail);go_ret;exact ⟨by rw [Hor.out];rfl,rfl⟩
set_option maxRecDepth 100000 in
theorem rword (w : World) (A : Option Addr) (cap n : Nat) (bs : List UInt8) (h : BytesIn w A n bs) (m : Nat) (hm : m + 3 < n) (hn : n ≤ 1000000) :
    Calls Tryz.prog 64 #[.slice A n cap,.int .i64 m] w fun e w'=>e = .returned (.int .u32 (nU (wordU bs m))) ∧ Below w.heap.size w w':=by
  obtain ⟨q,o,rfl,hck⟩:=BytesIn.get h (i:=0) (by omega);have l0 : (m : Int) < n:=by omega
  have t1 : ((m : Int) + 1).toNat = m + 1:=by omega
  have t2 : ((m : Int) + 2).toNat = m + 2:=by omega
  have t3 : ((m : Int) + 3).toNat = m + 3:=by omega
  have w0 : IntKind.i64.wrap (m : Int) = m:=by simp [IntKind.wrap,IntKind.bits,IntKind.signed];omega
  have w1 : IntKind.i64.wrap ((m : Int) + 1) = (m : Int) + 1:=by simp [IntKind.wrap,IntKind.bits,IntKind.signed];omega
  have w2 : IntKind.i64.wrap ((m : Int) + 2) = (m : Int) + 2:=by simp [IntKind.wrap,IntKind.bits,IntKind.signed];omega
  have w3 : IntKind.i64.wrap ((m : Int) + 3) = (m : Int) + 3:=by simp [IntKind.wrap,IntKind.bits,IntKind.signed];omega
  have l1 : 0 ≤ (m : Int) + 1 ∧ (m : Int) + 1 < n:=by omega
  have l2 : 0 ≤ (m : Int) + 2 ∧ (m : Int) + 2 < n:=by omega
  have l3 : 0 ≤ (m : Int) + 3 ∧ (m : Int) + 3 < n:=by omega
  have x0:=hck m (by omega);have x1:=hck (m + 1) (by omega);have x2:=hck (m + 2) (by omega);have x3:=hck (m + 3) (by omega);have hwd : (bs.getD m 0).toUInt32 <<< 24 ||| (bs.getD (m + 1) 0).toUInt32 <<< 16 ||| (bs.getD (m + 2) 0).toUInt32 <<< 8 ||| (bs.getD (m + 3) 0).toUInt32 = wordU bs m:=rfl
  obtain ⟨y0,h0⟩ : ∃ y,bs.getD m 0 = y:=⟨_,rfl⟩
  obtain ⟨y1,h1⟩ : ∃ y,bs.getD (m + 1) 0 = y:=⟨_,rfl⟩
  obtain ⟨y2,h2⟩ : ∃ y,bs.getD (m + 2) 0 = y:=⟨_,rfl⟩
  obtain ⟨y3,h3⟩ : ∃ y,bs.getD (m + 3) 0 = y:=⟨_,rfl⟩
  rw [h0] at x0 hwd;rw [h1] at x1 hwd;rw [h2] at x2 hwd;rw [h3] at x3 hwd;have Hwd:=Lib.hid hwd;clear hwd h0 h1 h2 h3 hck h;go_enter Tryz.func64,Tryz.ntmps64
  go_upto_region 1 with fail
  refine wp_region_lex (Bel w) false (by kernel_rfl) (by kernel_rfl) (by kernel_rfl) (bel_drew w) ?_;have hne:=bel_some w;have hS:=bel_drew w;have b0:=sub_cell x0;have b1:=sub_cell x1;have b2:=sub_cell x2;have b3:=sub_cell x3;repeat (refine wpLx_loose ?_ ?_;(focus (simp only [chainOp];done));intro K hK;go_simp;refine hK _ ?_;clear hK K)
  refine wpLx_nil ?_;intro hS;have hS' : Below w.heap.size w w.drew:=hS;(go_wp2_with fail);go_ret;exact ⟨by rw [Hwd.out];rfl,hS'⟩
end
section
open Go.RowKit
theorem infoA8 : (Tryz.prog.info? 93).map (·.size) = some 8:=by kernel_rfl
@[go_sem ↓] theorem zeroA8_run (w : World) : (zeroValue 93).run Tryz.prog w = .ok (.agg (wsC (zU 8))) w:=by
  have h : (Tryz.prog.info? 93).bind (·.zero) = some (.agg (wsC (zU 8))):=by kernel_rfl
  cases hi : Tryz.prog.info? 93 with
  | none=>rw [hi] at h;cases h
  | some i =>
    rw [hi] at h;have hz : i.zero = some (.agg (wsC (zU 8))):=h;simp [zeroValue,typeInfo,hi,hz]
@[go_sem ↓] theorem loadA8_rw (a : Addr) : loadVar 93 a = ldS 93 a:=rfl
@[go_sem ↓] theorem storeA8_rw (a : Addr) (v : Value) : storeVar 93 a v = stS 93 a v:=rfl
@[go_sem] theorem loadA8_run (w : World) (g o : Nat) : (ldS 93 ⟨g,o,none⟩).run Tryz.prog w = match rowAt w g o 8 with | some cs=>.ok (.agg cs) w | none=>(loadVar 93 ⟨g,o,none⟩).run Tryz.prog w :=
  run_ldS Tryz.underlying93 rfl infoA8 w g o
@[go_sem] theorem storeA8_run (w : World) (g : Nat) (hg : g = w.heap.size) (z : Array Value) (hz : z.size = 8) (L : List UInt32) (hL : L.length = 8) (e : TypeId) : (stS 93 ⟨g,0,none⟩ (.agg (wsC L))).run Tryz.prog (w.alloc (.cells z e)) = .ok () (w.alloc (.cells (wsC L) e)) :=
  hg ▸ run_stS_new infoA8 w z (wsC L) hz ((wsC_size L).trans hL) (wsC_one L)
end
section
open Go.RowKit
def mvU (z : StU) (j : Nat) : List UInt32:=z.l.take (j + 1) ++ (z.l.drop j).take (7 - j)
theorem mvU_len (z : StU) {j : Nat} (hj : j ≤ 7) : (mvU z j).length = 8:=by unfold mvU;simp [z.l_len];omega
theorem mvU_get (z : StU) {j : Nat} (h1 : j < 7) : (mvU z (j + 1)).getD j 0 = z.l.getD j 0:=by
  have h8 : j = 0 ∨ j = 1 ∨ j = 2 ∨ j = 3 ∨ j = 4 ∨ j = 5 ∨ j = 6:=by omega
  rcases h8 with rfl | rfl | rfl | rfl | rfl | rfl | rfl <;> rfl
theorem mvU_set (z : StU) {j : Nat} (h1 : j < 7) : (mvU z (j + 1)).set (j + 1) (z.l.getD j 0) = mvU z j:=by
  have h8 : j = 0 ∨ j = 1 ∨ j = 2 ∨ j = 3 ∨ j = 4 ∨ j = 5 ∨ j = 6:=by omega
  rcases h8 with rfl | rfl | rfl | rfl | rfl | rfl | rfl <;> rfl
theorem addU_comm_get {s z : StU} {k : Nat} (hk : k < 8) : z.l.getD k 0 + s.l.getD k 0 = (addU s z).l.getD k 0:=by rw [← zip_get hk,UInt32.add_comm]
theorem wcell {L : List UInt32} {w : World} {g : Nat} {T : TypeId} (hb : w.heap[g]? = some (.cells (wsC L) T (0,0))) {k : Nat} (hk : k < L.length) : w.cell? ⟨g,k,none⟩ = some (.int .u32 (nU (L.getD k 0))):=by
  rw [cell_of_row w g k _ _ _ hb,wsC_get L hk]
set_option maxRecDepth 100000 in
set_option maxHeartbeats 4000000 in
theorem rblock (w : World) (s : StU) (A : Option Addr) (cap : Nat) (bs : List UInt8) (gk capK : Nat) (TK : TypeId) (h : BytesIn w A 64 bs) (hk : w.heap[gk]? = some (.cells (wsC kU) TK (0,0))) :
    Calls Tryz.prog 32 #[.agg (wsC s.l),.slice A 64 cap,.slice (some ⟨gk,0,none⟩) 64 capK] w fun e w'=>e = .returned (.agg (wsC (turnU s bs).l)) ∧ Below w.heap.size w w':=by
  have hkl : gk < w.heap.size:=(Array.getElem?_eq_some_iff.1 hk).1;have hb0 : Below w.heap.size w (((w.alloc (.cells (wsC s.l) 93)).alloc (.cells (wsC (zU 8)) 93)).alloc (.cells (wsC (zU 64)) 125)):=(((Below.refl _ _).alloc (Nat.le_refl _) _).alloc (by simp) _).alloc (by simp;omega) _;have hn3:=heap_alloc_new ((w.alloc (.cells (wsC s.l) 93)).alloc (.cells (wsC (zU 8)) 93)) (.cells (wsC (zU 64)) 125);rw [show ((w.alloc (.cells (wsC s.l) 93)).alloc (.cells (wsC (zU 8)) 93)).heap.size = w.heap.size + 2 by simp] at hn3;have hn2 : (((w.alloc (.cells (wsC s.l) 93)).alloc (.cells (wsC (zU 8)) 93)).alloc (.cells (wsC (zU 64)) 125)).heap[w.heap.size + 1]? = some (.cells (wsC (zU 8)) 93 (0,0)):=by
    rw [Below.heap_alloc _ _ _ (by simp)];have:=heap_alloc_new (w.alloc (.cells (wsC s.l) 93)) (.cells (wsC (zU 8)) 93);simpa using this
  have hn1 : (((w.alloc (.cells (wsC s.l) 93)).alloc (.cells (wsC (zU 8)) 93)).alloc (.cells (wsC (zU 64)) 125)).heap[w.heap.size]? = some (.cells (wsC s.l) 93 (0,0)):=by
    rw [Below.heap_alloc _ _ _ (by simp;omega),Below.heap_alloc _ _ _ (by simp)];exact heap_alloc_new _ _
  have hA : ∀ x ∈ blk A,x < w.heap.size:=by
    obtain ⟨q,o,rfl,_⟩:=BytesIn.get h (i:=0) (by omega);intro x hx;simp [blk] at hx;subst hx;exact SlR.old h rfl (by omega)
  have h0:=h.below hb0;have hk0:=(hb0.block gk hkl).trans hk;clear h hk;go_enter Tryz.func32,Tryz.ntmps32
  go_upto_region 3 with fail
  obtain ⟨g,hg⟩ : ∃ g,w.heap.size = g:=⟨_,rfl⟩
  have Hg:=Lib.hid hg;obtain ⟨W,hW⟩ : ∃ W,W = ((w.alloc (.cells (wsC s.l) 93)).alloc (.cells (wsC (zU 8)) 93)).alloc (.cells (wsC (zU 64)) 125):=⟨_,rfl⟩
  rw [← hW] at hb0 hn1 hn2 hn3 h0 hk0 ⊢;rw [hg] at hb0 hn1 hn2 hn3 hkl hA ⊢;obtain ⟨g2,hg2⟩ : ∃ g2,g + 1 = g2:=⟨_,rfl⟩
  obtain ⟨g3,hg3⟩ : ∃ g3,g2 + 1 = g3:=⟨_,rfl⟩
  rw [show g + 2 = g3 by omega] at hn3;rw [hg2] at hn2;simp only [hg2,hg3];have hgl2 : g < g2:=by omega
  have hgl3 : g2 < g3:=by omega
  have hgW : g3 < W.heap.size:=(Array.getElem?_eq_some_iff.1 hn3).1;clear hg hW hg2 hg3;go_loopw [8,9,10] (fun n _ _ wr=>∃ k : Nat,k ≤ 64 ∧ n = .int .i64 k ∧ wr.heap[g3]? = some (.cells (wsC (wsU bs k)) 125 (0,0)) ∧ Keep [g3] W wr) (fun n _ _ _=>64 - (intOf n).toNat)
  case atStart=>exact ⟨0,Nat.zero_le _,rfl,hn3,Keep.refl _ _⟩
  case round =>
    obtain ⟨k,hk,rfl,hc,hkp⟩:=hrel;by_cases hlt : k < 64
    · by_cases h16 : k < 16
      · obtain ⟨m,hm⟩ : ∃ m : Nat,4 * k = m:=⟨_,rfl⟩
        have em : 4 * (k : Int) = (m : Int):=by omega
        have hcw:=rword wr A cap 64 bs (h0.kept hkp (fun x hx=>by have:=hA x hx;simp;omega)) m (by omega) (by omega);have hnx : wordU bs m = nextU bs (schedU bs k) k:=by unfold nextU;rw [if_pos h16,hm]
        rw [hnx] at hcw;clear hnx hm;(go_wp2_with fail);refine hcw.mono ?_;rintro e w2 ⟨rfl,hb2⟩;have hgr : g3 < wr.heap.size:=(Array.getElem?_eq_some_iff.1 hc).1;have hc2:=(hb2.block g3 hgr).trans hc;have x9 : w2.cell? ⟨g3,k,none⟩ = some (.int .u32 (nU ((wsU bs k).getD k 0))):=wcell hc2 (by rw [wsU_length _ hk];exact hlt);have f9 : w2.frozen? ⟨g3,k,none⟩ = false:=by simp [World.frozen?,hc2]
        have hc3:=heap_setCell_same hc2 k (.int .u32 (nU (nextU bs (schedU bs k) k)));rw [wsC_set,wsU_set bs hlt] at hc3;have hk2 : Keep [g3] W (w2.setCell ⟨g3,k,none⟩ (.int .u32 (nU (nextU bs (schedU bs k) k)))):=Keep.trans (Keep.trans hkp (Keep.of_below hb2) (by simp)) (Keep.setCell w2 ⟨g3,k,none⟩ _) (by simp);have Hc3:=Lib.hid hc3;clear hcw hb2 hc2 hc3 hkp hc em;(go_wp2_with fail);go_roundw
        case rel=>exact ⟨k + 1,by omega,by go_num,Hc3.out,hk2⟩
        case measure=>simp [intOf];omega
      · have gt : ∀ j : Nat,j < k → wr.cell? ⟨g3,j,none⟩ = some (.int .u32 (nU ((schedU bs k).getD j 0))):=fun j hj=>by
          rw [wcell hc (by rw [wsU_length _ hk];omega),wsU_get bs hj]
        obtain ⟨a,ha⟩ : ∃ a : Nat,k = a + 16:=⟨k - 16,by omega⟩
        obtain ⟨a5,ha5⟩ : ∃ a5 : Nat,a + 1 = a5:=⟨_,rfl⟩
        obtain ⟨a2,ha2⟩ : ∃ a2 : Nat,a + 14 = a2:=⟨_,rfl⟩
        obtain ⟨a7,ha7⟩ : ∃ a7 : Nat,a + 9 = a7:=⟨_,rfl⟩
        have s15 : (k : Int) - 15 = (a5 : Int):=by omega
        have w15 : IntKind.i64.wrap (a5 : Int) = (a5 : Int):=by simp [IntKind.wrap,IntKind.bits,IntKind.signed];omega
        have l15 : (a5 : Int) < 64:=by omega
        have x15:=gt a5 (by omega);have s2 : (k : Int) - 2 = (a2 : Int):=by omega
        have w2 : IntKind.i64.wrap (a2 : Int) = (a2 : Int):=by simp [IntKind.wrap,IntKind.bits,IntKind.signed];omega
        have l2 : (a2 : Int) < 64:=by omega
        have x2:=gt a2 (by omega);have s16 : (k : Int) - 16 = (a : Int):=by omega
        have w16 : IntKind.i64.wrap (a : Int) = (a : Int):=by simp [IntKind.wrap,IntKind.bits,IntKind.signed];omega
        have l16 : (a : Int) < 64:=by omega
        have x16:=gt a (by omega);have s7 : (k : Int) - 7 = (a7 : Int):=by omega
        have w7 : IntKind.i64.wrap (a7 : Int) = (a7 : Int):=by simp [IntKind.wrap,IntKind.bits,IntKind.signed];omega
        have l7 : (a7 : Int) < 64:=by omega
        have x7:=gt a7 (by omega);have hnx : (schedU bs k).getD a 0 + sg0 ((schedU bs k).getD a5 0) + (schedU bs k).getD a7 0 + sg1 ((schedU bs k).getD a2 0) = nextU bs (schedU bs k) k:=by
          unfold nextU;rw [if_neg h16,show k - 16 = a by omega,show k - 15 = a5 by omega,show k - 7 = a7 by omega,show k - 2 = a2 by omega]
        obtain ⟨z15,h15⟩ : ∃ z,(schedU bs k).getD a5 0 = z:=⟨_,rfl⟩
        obtain ⟨z2,h2⟩ : ∃ z,(schedU bs k).getD a2 0 = z:=⟨_,rfl⟩
        obtain ⟨z16,h3⟩ : ∃ z,(schedU bs k).getD a 0 = z:=⟨_,rfl⟩
        obtain ⟨z7,h4⟩ : ∃ z,(schedU bs k).getD a7 0 = z:=⟨_,rfl⟩
        rw [h15] at x15 hnx;rw [h2] at x2 hnx;rw [h3] at x16 hnx;rw [h4] at x7 hnx;unfold sg0 sg1 at hnx;have Hnx:=Lib.hid hnx;have c1:=fun w=>rrotr z15 7 (by omega) (by omega) w;have c2:=fun w=>rrotr z15 18 (by omega) (by omega) w;have c3:=fun w=>rrotr z2 17 (by omega) (by omega) w;have c4:=fun w=>rrotr z2 19 (by omega) (by omega) w;clear gt hnx h15 h2 h3 h4 ha ha5 ha2 ha7;go_upto_region 9 with fail
        have hqn : g3 ∉ ([] : List Nat):=by simp
        refine wp_region_lexf (Kp ([] : List Nat) wr) false (by kernel_rfl) (by kernel_rfl) (by kernel_rfl) (by kernel_rfl) (kp_drew ([] : List Nat) wr) ?_;have hne:=kp_some ([] : List Nat) wr;have hS:=kp_drew ([] : List Nat) wr;have b0:=ksub_cell x16 hqn;have b1:=ksub_cell x7 hqn;have hcd : wr.drew.heap[g3]? = some (.cells (wsC (wsU bs k)) 125 (0,0)):=hc;have x9 : wr.drew.cell? ⟨g3,k,none⟩ = some (.int .u32 (nU ((wsU bs k).getD k 0))):=wcell hcd (by rw [wsU_length _ hk];exact hlt);have f9 : wr.drew.frozen? ⟨g3,k,none⟩ = false:=by simp [World.frozen?,hcd]
        repeat (refine wpLx_loose ?_ ?_;(focus (simp only [chainOp];done));intro K hK;go_simp;refine hK _ ?_;clear hK K)
        refine wpLx_chain ?_ ?_ ?_;(focus (exact hS));(focus (simp only [chainOp];done));intro K hK;go_simp;refine (c1 _).mono ?_;rintro e w' ⟨rfl,rfl⟩;refine ⟨_,rfl,hS,hK _ _ ?_⟩;clear hK K;repeat (refine wpLx_loose ?_ ?_;(focus (simp only [chainOp];done));intro K hK;go_simp;refine hK _ ?_;clear hK K)
        refine wpLx_chain ?_ ?_ ?_;(focus (exact hS));(focus (simp only [chainOp];done));intro K hK;go_simp;refine (c2 _).mono ?_;rintro e w' ⟨rfl,rfl⟩;refine ⟨_,rfl,hS,hK _ _ ?_⟩;clear hK K;repeat (refine wpLx_loose ?_ ?_;(focus (simp only [chainOp];done));intro K hK;go_simp;refine hK _ ?_;clear hK K)
        refine wpLx_chain ?_ ?_ ?_;(focus (exact hS));(focus (simp only [chainOp];done));intro K hK;go_simp;refine (c3 _).mono ?_;rintro e w' ⟨rfl,rfl⟩;refine ⟨_,rfl,hS,hK _ _ ?_⟩;clear hK K;repeat (refine wpLx_loose ?_ ?_;(focus (simp only [chainOp];done));intro K hK;go_simp;refine hK _ ?_;clear hK K)
        refine wpLx_chain ?_ ?_ ?_;(focus (exact hS));(focus (simp only [chainOp];done));intro K hK;go_simp;refine (c4 _).mono ?_;rintro e w' ⟨rfl,rfl⟩;refine ⟨_,rfl,hS,hK _ _ ?_⟩;clear hK K;repeat (refine wpLx_loose ?_ ?_;(focus (simp only [chainOp];done));intro K hK;go_simp;refine hK _ ?_;clear hK K)
        refine wpLx_end ?_ ?_;(focus (simp only [chainOp];done));intro K hK;go_simp;rw [Hnx.out];refine hK _ _ ?_;clear hK K;have hc2:=heap_setCell_same hcd k (.int .u32 (nU (nextU bs (schedU bs k) k)));rw [wsC_set,wsU_set bs hlt] at hc2;have hk2 : Keep [g3] W (wr.drew.setCell ⟨g3,k,none⟩ (.int .u32 (nU (nextU bs (schedU bs k) k)))):=Keep.trans (Keep.trans hkp (Keep.drew wr) (by simp)) (Keep.setCell wr.drew ⟨g3,k,none⟩ _) (by simp);clear hne hS hqn x9 f9 hc hcd hkp Hnx b0 b1 x16 x7 x15 x2 c1 c2 c3 c4;(go_wp2_with fail);go_roundw
        case rel=>exact ⟨k + 1,by omega,by go_num,hc2,hk2⟩
        case measure=>simp [intOf];omega
    · have hk64 : k = 64:=by omega
      rw [hk64,wsU_all] at hc;have hws:=schedU_length bs 64;obtain ⟨ws,hwse⟩ : ∃ ws,schedU bs 64 = ws:=⟨_,rfl⟩
      have htu : turnU s bs = addU s (rndsU ws s 64):=by rw [← hwse];rfl
      rw [hwse] at hc hws;have Hws:=Lib.hid hws;have Htu:=Lib.hid htu;have hn1r:=(hkp.block g (by omega) (by simp;omega)).trans hn1;have hn2r:=(hkp.block g2 (by omega) (by simp;omega)).trans hn2;have hkr:=(hkp.block gk (by omega) (by simp;omega)).trans hk0;have hbr : Below g w wr:=hb0.trans (hkp.below (B:=g) (by omega) (by simp;omega));have hg3r : g3 < wr.heap.size:=by have:=hkp.size;omega
      have hrow : rowAt wr g 0 8 = some (wsC s.l):=by unfold rowAt;rw [hn1r];simp [s.l_len]
      have hnv:=heap_alloc_new wr (.cells (wsC s.l) 93);have hst:=storeA8_run wr wr.heap.size rfl (wsC (zU 8)) (by simp [zU_length]) s.l s.l_len 93;have hbv : Below g w (wr.alloc (.cells (wsC s.l) 93)):=hbr.alloc (by have:=hbr.size;have:=Hg.out;omega) _;have ha:=Keep.alloc wr (.cells (wsC s.l) 93);have hn1v:=(ha.block g (by omega) (by simp)).trans hn1r;have hn2v:=(ha.block g2 (by omega) (by simp)).trans hn2r;have hkv:=(ha.block gk (by omega) (by simp)).trans hkr;have hcv:=(ha.block g3 hg3r (by simp)).trans hc;clear hwse htu hws hk64 hkp hn1 hn2 hn3 hk0 h0 hb0 hn1r hn2r hkr hbr hc ha;go_upto_region 11 with fail
      obtain ⟨gv,hgv⟩ : ∃ gv,wr.heap.size = gv:=⟨_,rfl⟩
      obtain ⟨V,hV⟩ : ∃ V,V = wr.alloc (.cells (wsC s.l) 93):=⟨_,rfl⟩
      rw [← hV] at hnv hbv hn1v hn2v hkv hcv ⊢;rw [hgv] at hnv hg3r ⊢;have hgvV : gv < V.heap.size:=(Array.getElem?_eq_some_iff.1 hnv).1;clear hst hrow hV hgv;(go_wp2_with fail);go_loopw [12,13,14,15,16,17] (fun n _ _ _ _ _ wr=>∃ (k : Nat) (z : StU),k ≤ 64 ∧ n = .int .i64 k ∧ Hid (rndsU ws s k = z) ∧ wr.heap[gv]? = some (.cells (wsC z.l) 93 (0,0)) ∧ Keep [gv] V wr) (fun n _ _ _ _ _ _=>64 - (intOf n).toNat)
      case atStart=>exact ⟨0,s,by omega,rfl,(show _ = _ from rfl),hnv,Keep.refl _ _⟩
      case round =>
        clear hnv;obtain ⟨k,z,hk,rfl,hz,hc,hkp⟩:=hrel;by_cases hlt : k < 64
        · have hzn : rndsU ws s (k + 1) = rndU z (kU.getD k 0) (ws.getD k 0):=by rw [rndsU,hz.out]
          obtain ⟨za,zb,zc,zd,ze,zf,zg,zh⟩:=z;have ys:=fun j (hj : j < 8)=>wcell hc (k:=j) hj;have y0:=ys 0 (by omega);have y1:=ys 1 (by omega);have y2:=ys 2 (by omega);have y4:=ys 4 (by omega);have y5:=ys 5 (by omega);have y6:=ys 6 (by omega);have y7:=ys 7 (by omega);simp only [StU.l,List.getD_cons_zero,List.getD_cons_succ] at y0 y1 y2 y4 y5 y6 y7;have hkr:=(hkp.block gk (by omega) (by simp;omega)).trans hkv;have hcr:=(hkp.block g3 (by omega) (by simp;omega)).trans hcv;have yk : wr.cell? ⟨gk,k,none⟩ = some (.int .u32 (nU (kU.getD k 0))):=wcell hkr hlt;have yw : wr.cell? ⟨g3,k,none⟩ = some (.int .u32 (nU (ws.getD k 0))):=wcell hcr (by rw [Hws.out];exact hlt);obtain ⟨kv,hkv'⟩ : ∃ kv,kU.getD k 0 = kv:=⟨_,rfl⟩
          obtain ⟨wv,hwv⟩ : ∃ wv,ws.getD k 0 = wv:=⟨_,rfl⟩
          rw [hkv'] at yk hzn;rw [hwv] at yw hzn;have Hzn:=Lib.hid hzn;have c6:=fun w=>rrotr ze 6 (by omega) (by omega) w;have c11:=fun w=>rrotr ze 11 (by omega) (by omega) w;have c25:=fun w=>rrotr ze 25 (by omega) (by omega) w;have c2:=fun w=>rrotr za 2 (by omega) (by omega) w;have c13:=fun w=>rrotr za 13 (by omega) (by omega) w;have c22:=fun w=>rrotr za 22 (by omega) (by omega) w;clear hzn hkv' hwv hkr hcr ys;go_upto_region 16 with fail
          have q1 : gv ∉ ([] : List Nat):=by simp
          have q2 : gk ∉ ([] : List Nat):=by simp
          have q3 : g3 ∉ ([] : List Nat):=by simp
          refine wp_region_lex (Kp ([] : List Nat) wr) false (by kernel_rfl) (by kernel_rfl) (by kernel_rfl) (kp_drew ([] : List Nat) wr) ?_;have hne:=kp_some ([] : List Nat) wr;have hS:=kp_drew ([] : List Nat) wr;have b1:=ksub_cell y7 q1;have b2:=ksub_cell y5 q1;have b3:=ksub_cell y6 q1;have b4:=ksub_cell yk q2;have b5:=ksub_cell yw q3;repeat (refine wpLx_loose ?_ ?_;(focus (simp only [chainOp];done));intro K hK;go_simp;refine hK _ ?_;clear hK K)
          refine wpLx_chain ?_ ?_ ?_;(focus (exact hS));(focus (simp only [chainOp];done));intro K hK;go_simp;refine (c6 _).mono ?_;rintro e w' ⟨rfl,rfl⟩;refine ⟨_,rfl,hS,hK _ _ ?_⟩;clear hK K;repeat (refine wpLx_loose ?_ ?_;(focus (simp only [chainOp];done));intro K hK;go_simp;refine hK _ ?_;clear hK K)
          refine wpLx_chain ?_ ?_ ?_;(focus (exact hS));(focus (simp only [chainOp];done));intro K hK;go_simp;refine (c11 _).mono ?_;rintro e w' ⟨rfl,rfl⟩;refine ⟨_,rfl,hS,hK _ _ ?_⟩;clear hK K;repeat (refine wpLx_loose ?_ ?_;(focus (simp only [chainOp];done));intro K hK;go_simp;refine hK _ ?_;clear hK K)
          refine wpLx_chain ?_ ?_ ?_;(focus (exact hS));(focus (simp only [chainOp];done));intro K hK;go_simp;refine (c25 _).mono ?_;rintro e w' ⟨rfl,rfl⟩;refine ⟨_,rfl,hS,hK _ _ ?_⟩;clear hK K;repeat (refine wpLx_loose ?_ ?_;(focus (simp only [chainOp];done));intro K hK;go_simp;refine hK _ ?_;clear hK K)
          refine wpLx_nil ?_;intro hS;have hkd : Keep [gv] V wr.drew:=Keep.trans hkp hS (by simp);have hcd : wr.drew.heap[gv]? = some (.cells (wsC (StU.l ⟨za,zb,zc,zd,ze,zf,zg,zh⟩)) 93 (0,0)):=hc;have y1 : wr.drew.cell? ⟨gv,1,none⟩ = some (.int .u32 (nU zb)):=y1;have y2 : wr.drew.cell? ⟨gv,2,none⟩ = some (.int .u32 (nU zc)):=y2;obtain ⟨wd,hwd⟩ : ∃ wd,wd = wr.drew:=⟨_,rfl⟩
          rw [← hwd] at hkd hcd y1 y2 ⊢;clear hne hS b1 b2 b3 b4 b5 y0 y4 y5 y6 y7 yk yw c6 c11 c25 hwd hc hkp;go_upto_region 17 with fail
          refine wp_region_lex (Kp ([] : List Nat) wd) false (by kernel_rfl) (by kernel_rfl) (by kernel_rfl) (kp_drew ([] : List Nat) wd) ?_;have hne:=kp_some ([] : List Nat) wd;have hS:=kp_drew ([] : List Nat) wd;have b1:=ksub_cell y1 q1;have b2:=ksub_cell y2 q1;repeat (refine wpLx_loose ?_ ?_;(focus (simp only [chainOp];done));intro K hK;go_simp;refine hK _ ?_;clear hK K)
          refine wpLx_chain ?_ ?_ ?_;(focus (exact hS));(focus (simp only [chainOp];done));intro K hK;go_simp;refine (c2 _).mono ?_;rintro e w' ⟨rfl,rfl⟩;refine ⟨_,rfl,hS,hK _ _ ?_⟩;clear hK K;repeat (refine wpLx_loose ?_ ?_;(focus (simp only [chainOp];done));intro K hK;go_simp;refine hK _ ?_;clear hK K)
          refine wpLx_chain ?_ ?_ ?_;(focus (exact hS));(focus (simp only [chainOp];done));intro K hK;go_simp;refine (c13 _).mono ?_;rintro e w' ⟨rfl,rfl⟩;refine ⟨_,rfl,hS,hK _ _ ?_⟩;clear hK K;repeat (refine wpLx_loose ?_ ?_;(focus (simp only [chainOp];done));intro K hK;go_simp;refine hK _ ?_;clear hK K)
          refine wpLx_chain ?_ ?_ ?_;(focus (exact hS));(focus (simp only [chainOp];done));intro K hK;go_simp;refine (c22 _).mono ?_;rintro e w' ⟨rfl,rfl⟩;refine ⟨_,rfl,hS,hK _ _ ?_⟩;clear hK K;repeat (refine wpLx_loose ?_ ?_;(focus (simp only [chainOp];done));intro K hK;go_simp;refine hK _ ?_;clear hK K)
          refine wpLx_nil ?_;intro hS;have hke : Keep [gv] V wd.drew:=Keep.trans hkd hS (by simp);have hce : wd.drew.heap[gv]? = some (.cells (wsC (mvU ⟨za,zb,zc,zd,ze,zf,zg,zh⟩ 7)) 93 (0,0)):=hcd;obtain ⟨we,hwe⟩ : ∃ we,we = wd.drew:=⟨_,rfl⟩
          rw [← hwe] at hke hce ⊢;clear hne hS b1 b2 y1 y2 c2 c13 c22 hwe hkd hcd;obtain ⟨tt,htt⟩ : ∃ tt,zh + (rotU ze 6 ^^^ rotU ze 11 ^^^ rotU ze 25) + (ze &&& zf ^^^ ~~~ze &&& zg) + kv + wv = tt:=⟨_,rfl⟩
          obtain ⟨uu,huu⟩ : ∃ uu,(rotU za 2 ^^^ rotU za 13 ^^^ rotU za 22) + (za &&& zb ^^^ za &&& zc ^^^ zb &&& zc) = uu:=⟨_,rfl⟩
          rw [htt,huu];have hzz : rndU ⟨za,zb,zc,zd,ze,zf,zg,zh⟩ kv wv = ⟨tt + uu,za,zb,zc,zd + tt,ze,zf,zg⟩:=by rw [← htt,← huu];rfl
          have Hzz:=Lib.hid hzz;clear htt huu hzz;go_upto_region 19 with fail
          go_loopw [17] (fun jv wr=>∃ j : Nat,j ≤ 7 ∧ jv = .int .i64 j ∧ wr.heap[gv]? = some (.cells (wsC (mvU ⟨za,zb,zc,zd,ze,zf,zg,zh⟩ j)) 93 (0,0)) ∧ Keep [gv] we wr) (fun jv _=>(intOf jv).toNat)
          case atStart=>exact ⟨7,by omega,rfl,hce,Keep.refl _ _⟩
          case round =>
            clear hce;obtain ⟨j,hj,rfl,hcj,hkj⟩:=hrel;by_cases hj0 : 0 < j
            · obtain ⟨i,hi⟩ : ∃ i,j = i + 1:=⟨j - 1,by omega⟩
              have es : (j : Int) - 1 = (i : Int):=by omega
              have li : (i : Int) < 8:=by omega
              have lj : (j : Int) < 8:=by omega
              have hml:=mvU_len ⟨za,zb,zc,zd,ze,zf,zg,zh⟩ hj;have x0 : wr.cell? ⟨gv,i,none⟩ = some (.int .u32 (nU ((StU.l ⟨za,zb,zc,zd,ze,zf,zg,zh⟩).getD i 0))):=by
                rw [wcell hcj (by rw [hml];omega),hi,mvU_get _ (by omega)]
              have x1 : wr.cell? ⟨gv,j,none⟩ = some (.int .u32 (nU ((mvU ⟨za,zb,zc,zd,ze,zf,zg,zh⟩ j).getD j 0))):=wcell hcj (by rw [hml];omega);have f1 : wr.frozen? ⟨gv,j,none⟩ = false:=by simp [World.frozen?,hcj]
              have hset:=mvU_set ⟨za,zb,zc,zd,ze,zf,zg,zh⟩ (j:=i) (by omega);rw [← hi] at hset;obtain ⟨y,hy⟩ : ∃ y,(StU.l ⟨za,zb,zc,zd,ze,zf,zg,zh⟩).getD i 0 = y:=⟨_,rfl⟩
              rw [hy] at hset x0;have hc2:=heap_setCell_same hcj j (.int .u32 (nU y));rw [wsC_set,hset] at hc2;have hk2 : Keep [gv] we (wr.setCell ⟨gv,j,none⟩ (.int .u32 (nU y))):=Keep.trans hkj (Keep.setCell wr ⟨gv,j,none⟩ _) (fun x hx=>.inl hx);have Hc2:=Lib.hid hc2;clear hset hy hc2 hcj hkj hml hi;(go_wp2_with fail);go_roundw
              case rel=>exact ⟨i,by omega,rfl,Hc2.out,hk2⟩
              case measure=>simp [intOf];omega
            · have hj00 : j = 0:=by omega
              rw [hj00] at hcj;have hc0 : wr.heap[gv]? = some (.cells (wsC [za,za,zb,zc,zd,ze,zf,zg]) 93 (0,0)):=hcj;have x4 : wr.cell? ⟨gv,4,none⟩ = some (.int .u32 (nU zd)):=wcell hc0 (k:=4) (by simp);have f4 : wr.frozen? ⟨gv,4,none⟩ = false:=by simp [World.frozen?,hc0]
              have hc4:=heap_setCell_same hc0 4 (.int .u32 (nU (zd + tt)));rw [wsC_set] at hc4;have x0 : (wr.setCell ⟨gv,4,none⟩ (.int .u32 (nU (zd + tt)))).cell? ⟨gv,0,none⟩ = some (.int .u32 (nU za)):=wcell hc4 (k:=0) (by simp);have f0 : (wr.setCell ⟨gv,4,none⟩ (.int .u32 (nU (zd + tt)))).frozen? ⟨gv,0,none⟩ = false:=by simp [World.frozen?,hc4]
              have hc5:=heap_setCell_same hc4 0 (.int .u32 (nU (tt + uu)));rw [wsC_set] at hc5;have hc6 : ((wr.setCell ⟨gv,4,none⟩ (.int .u32 (nU (zd + tt)))).setCell ⟨gv,0,none⟩ (.int .u32 (nU (tt + uu)))).heap[gv]? = some (.cells (wsC (StU.l ⟨tt + uu,za,zb,zc,zd + tt,ze,zf,zg⟩)) 93 (0,0)):=hc5;have hkf : Keep [gv] V ((wr.setCell ⟨gv,4,none⟩ (.int .u32 (nU (zd + tt)))).setCell ⟨gv,0,none⟩ (.int .u32 (nU (tt + uu)))):=Keep.trans (Keep.trans (Keep.trans hke hkj (fun x hx=>.inl hx)) (Keep.setCell _ _ _) (fun x hx=>.inl hx)) (Keep.setCell _ _ _) (fun x hx=>.inl hx);have Hc6:=Lib.hid hc6;have Hkf:=Lib.hid hkf;have hzf : Hid (rndsU ws s (k + 1) = ⟨tt + uu,za,zb,zc,zd + tt,ze,zf,zg⟩):=Hzn.out.trans Hzz.out;clear hc0 hc4 hc5 hc6 hkf hcj hkj hj00 hke Hzn Hzz hz;(go_wp2_with fail);go_roundw
              case rel=>exact ⟨k + 1,_,by omega,by go_num,hzf,Hc6.out,Hkf.out⟩
              case measure=>simp [intOf];omega
        · have hk64 : k = 64:=by omega
          have hz64 : rndsU ws s 64 = z:=hk64 ▸ hz.out;have Htz : Hid (turnU s bs = addU s z):=(show _ = _ by rw [Htu.out,hz64])
          have hn1r:=(hkp.block g (by omega) (by simp;omega)).trans hn1v;have hn2r:=(hkp.block g2 (by omega) (by simp;omega)).trans hn2v;have hbr : Below g w wr:=hbv.trans (hkp.below (B:=g) (by omega) (by simp;omega));have hgvr : gv < wr.heap.size:=by have:=hkp.size;omega
          clear hz64 hk64 hz hkp hn1v hn2v hbv hkv hcv;go_upto_region 25 with fail
          obtain ⟨V2,hV2⟩ : ∃ V2,V2 = wr:=⟨wr,rfl⟩
          go_loopw [18] (fun jv wr=>∃ j : Nat,j ≤ 8 ∧ jv = .int .i64 j ∧ wr.heap[gv]? = some (.cells (wsC ((addU s z).l.take j ++ z.l.drop j)) 93 (0,0)) ∧ Keep [gv] V2 wr) (fun jv _=>8 - (intOf jv).toNat)
          case atStart=>exact ⟨0,by omega,rfl,(by rw [hc];rfl),by rw [hV2];exact Keep.refl _ _⟩
          case round =>
            clear hc;rw [← hV2] at hn1r hn2r hbr hgvr;clear hV2;obtain ⟨j,hj,rfl,hc,hkp⟩:=hrel;by_cases hlt : j < 8
            · have hml : ((addU s z).l.take j ++ z.l.drop j).length = 8:=by simp [StU.l_len];omega
              have y0:=wcell hc (k:=j) (by rw [hml];exact hlt);rw [mix_get (L:=(addU s z).l) (M:=z.l) rfl hlt] at y0;have y1 : wr.cell? ⟨g,j,none⟩ = some (.int .u32 (nU (s.l.getD j 0))):=wcell ((hkp.block g (by omega) (by simp;omega)).trans hn1r) hlt;have hset:=mix_set (L:=(addU s z).l) (M:=z.l) rfl hlt;have hz8:=addU_comm_get (s:=s) (z:=z) hlt;obtain ⟨c1,hc1⟩ : ∃ c1,z.l.getD j 0 = c1:=⟨_,rfl⟩
              obtain ⟨c2,hc2⟩ : ∃ c2,s.l.getD j 0 = c2:=⟨_,rfl⟩
              rw [hc1,hc2] at hz8;rw [hc1] at y0;rw [hc2] at y1;rw [← hz8] at hset;have Hset:=Lib.hid hset;clear hset hz8 hc1 hc2 hml;go_upto_region 27 with fail
              have q1 : gv ∉ ([] : List Nat):=by simp
              have q2 : g ∉ ([] : List Nat):=by simp
              refine wp_region_lexf (Kp ([] : List Nat) wr) false (by kernel_rfl) (by kernel_rfl) (by kernel_rfl) (by kernel_rfl) (kp_drew ([] : List Nat) wr) ?_;have hne:=kp_some ([] : List Nat) wr;have hS:=kp_drew ([] : List Nat) wr;have b0:=ksub_cell y0 q1;have b1:=ksub_cell y1 q2;have hcd : wr.drew.heap[gv]? = some (.cells (wsC ((addU s z).l.take j ++ z.l.drop j)) 93 (0,0)):=hc;have x9 : wr.drew.cell? ⟨gv,j,none⟩ = some (.int .u32 (nU c1)):=y0;have f9 : wr.drew.frozen? ⟨gv,j,none⟩ = false:=by simp [World.frozen?,hcd]
              repeat (refine wpLx_loose ?_ ?_;(focus (simp only [chainOp];done));intro K hK;go_simp;refine hK _ ?_;clear hK K)
              refine wpLx_end ?_ ?_;(focus (simp only [chainOp];done));intro K hK;go_simp;refine hK _ _ ?_;clear hK K;have hg2:=heap_setCell_same hcd j (.int .u32 (nU (c1 + c2)));rw [wsC_set,Hset.out] at hg2;have hk2 : Keep [gv] V2 (wr.drew.setCell ⟨gv,j,none⟩ (.int .u32 (nU (c1 + c2)))):=Keep.trans (Keep.trans hkp (Keep.drew wr) (by simp)) (Keep.setCell wr.drew ⟨gv,j,none⟩ _) (by simp);clear hne hS x9 f9 hc hcd hkp b0 b1 y0 y1 Hset;(go_wp2_with fail);go_roundw
              case rel=>exact ⟨j + 1,by omega,by go_num,hg2,hk2⟩
              case measure=>simp [intOf];omega
            · have hj8 : j = 8:=by omega
              have e8 : (addU s z).l.take j ++ z.l.drop j = (addU s z).l:=by rw [hj8];rfl
              rw [e8] at hc;have hrow : rowAt wr gv 0 8 = some (wsC (addU s z).l):=by unfold rowAt;rw [hc];simp [StU.l_len]
              have hn2f:=(hkp.block g2 (by omega) (by simp;omega)).trans hn2r;have hsto:=run_stS_at (P:=Tryz.prog) infoA8 wr g2 (wsC (zU 8)) (wsC (addU s z).l) _ hn2f (by simp [zU_length]) (by simp [StU.l_len]) (wsC_one _);have Hfin:=Lib.hid (setRow_heap wr g2 _ (wsC (addU s z).l) _ _ hn2f);have hkf : Keep [g2] wr (wr.setRow g2 (wsC (addU s z).l)):=⟨rfl,rfl,rfl,by simp [World.setRow],fun x _ hx=>setRow_other wr g2 x _ (by simpa using hx)⟩
              have hkz:=Keep.trans (hkp.mono (S':=[g2,gv]) (by simp)) (hkf.mono (S':=[g2,gv]) (by simp)) (fun x hx=>.inl hx);have hbz : Below g w (wr.setRow g2 (wsC (addU s z).l)):=hbr.trans (hkz.below (by omega) (by simp;omega));have Hbz:=Lib.hid hbz;clear hkf hkz hbz hn2f hc e8 hj8 hkp hn1r hn2r hbr;(go_wp2_with fail);exact bodyPost_ret (results_cell_row Tryz.results32 _ _ g2 93 (wsC (addU s z).l) (0,0) _ rfl Hfin.out Tryz.underlying93 rfl (by rw [wsC_size,StU.l_len];exact infoA8)) rfl ⟨by rw [Htz.out],by rw [Hg.out];exact Hbz.out⟩
end
section
open Go.RowKit
theorem row_of_cells {w : World} {g k : Nat} {cs : Array Value} (hk : 0 < k) (hs : cs.size = k) (h : ∀ j,j < k → w.cell? ⟨g,j,none⟩ = cs[j]?) : rowAt w g 0 k = some cs:=by
  have h0:=h (k - 1) (by omega);rw [Array.getElem?_eq_getElem (by omega)] at h0;unfold rowAt;cases hg : w.heap[g]? with
  | none=>simp [World.cell?,hg] at h0
  | some ob =>
    cases ob with
    | cells c T fr =>
      have hc : ∀ j,j < k → c[j]? = cs[j]?:=fun j hj=>(by rw [← h j hj,cell_of_row w g j _ _ _ hg]);have h1:=hc (k - 1) (by omega);rw [Array.getElem?_eq_getElem (xs:=cs) (by omega)] at h1;have hsz : k ≤ c.size:=by have:=(Array.getElem?_eq_some_iff.1 h1).1;omega
      simp only [Nat.zero_add];rw [if_pos hsz];congr 1
      apply Array.ext
      · simp;omega
      · intro j h2 h3;have:=hc j (by omega);rw [Array.getElem?_eq_getElem (by omega),Array.getElem?_eq_getElem (by omega)] at this;simpa using Option.some.inj this
    | _=>simp [World.cell?,hg] at h0
theorem ShaVars.row {w : World} (h : ShaVars w) : rowAt w 0 0 8 = some (wsC hU):=by
  refine row_of_cells (by omega) (by simp [hU]) fun j hj=>?_;rw [h.first j hj,wsC_get hU (by simpa [hU] using hj)]
theorem buildHash (w : World) : (Instr.build 159 #[(0,.agg (wsC hU)),(3,.bool true)]).run Tryz.prog w = .ok (.agg (wsC firstU.l ++ #[.slice none 0 0,.int .i64 0,.bool true])) w:=by kernel_rfl
abbrev haC (s : StU) (r : Value) (n : Int) : Array Value:=wsC s.l ++ #[r,.int .i64 n,.bool true]
theorem haC_c {w : World} {g : Nat} {s : StU} {r : Value} {n : Int} {T : TypeId} (h : w.heap[g]? = some (.cells (haC s r n) T (0,0))) :
    w.cell? ⟨g,8,none⟩ = some r ∧ w.cell? ⟨g,9,none⟩ = some (.int .i64 n) ∧ w.cell? ⟨g,10,none⟩ = some (.bool true) ∧ ∀ j,w.frozen? ⟨g,j,none⟩ = false:=by
  have e : (wsC s.l).size = 8:=by rw [wsC_size];rfl
  refine ⟨?_,?_,?_,fun j=>by simp [World.frozen?,h]⟩ <;> rw [cell_of_row w g _ _ _ _ h,Array.getElem?_append_right (by omega),e] <;> rfl
theorem haC_set8 (s : StU) (r r' : Value) (n : Int) : (haC s r n).setIfInBounds 8 r' = haC s r' n:=by
  apply Array.ext';simp [StU.l,wsC]
theorem haC_set9 (s : StU) (r : Value) (n n' : Int) : (haC s r n).setIfInBounds 9 (.int .i64 n') = haC s r n':=by
  apply Array.ext';simp [StU.l,wsC]
set_option maxRecDepth 100000 in
theorem sha_new (w : World) (hv : ShaVars w) : Calls Tryz.prog 49 #[] w fun e w'=>e = .returned (.pointer (some ⟨w.heap.size,0,none⟩)) ∧ w' = w.alloc (.cells (haC firstU (.slice none 0 0) 0) 159):=by
  have hr:=hv.row;have hb:=buildHash w;go_enter Tryz.func49,Tryz.ntmps49
  (go_wp2_with fail);go_ret;exact ⟨rfl,rfl⟩
theorem sha_none (w : World) (g : Nat) (h : w.cell? ⟨g,10,none⟩ = some (.bool true)) : Calls Tryz.prog 83 #[.pointer (some ⟨g,0,none⟩)] w fun e w'=>e = .returned (.bool false) ∧ w = w':=by
  go_enter Tryz.func83,Tryz.ntmps83
  (go_wp2_with fail);go_ret;exact ⟨rfl,rfl⟩
theorem Lx_append_str {P : Program} {ops : Array Oper} {S : World → Prop} {cv fb : Bool} {Q : Act → World → Prop} {a : Act} {w : World} {rest : List Oper} {dst : Option Tmp} {sl x : Operand} {ty : TypeId} {pos : String} {after : Array Edge} {T U E : TypeId} {i : TypeInfo} (ht : P.underlying T = some (.slice E)) (hu : P.underlying U = some .string) (hi : P.info? E = some i) (hz : i.zero = some (.int .u8 0)) (hsize : i.size = 1) (hby : i.bytes = 1)
    {B : Nat} {A : Option Addr} {n cap : Nat} {bs : List UInt8} {s : ByteArray} (hs : a.eval sl = .slice A n cap) (hown : Own w B E 1 A n cap (bytesR bs)) (hx : a.eval x = .string s) (hbytes : n + s.size ≤ 140737488355328) (hB : B ≤ w.heap.size)
    (h : ∀ A' cap' w',Own w' B E 1 A' (n + s.size) cap' (bytesR (bs ++ s.data.toList)) → Keep (blk A) w w' → (∀ x ∈ blk A',x ∈ blk A ∨ w.heap.size ≤ x) → S w' ∧ wpLx P ops S cv fb Q rest (a.put dst (.slice A' (n + s.size) cap')) w') :
    wpLx P ops S cv fb Q ({ dst:=dst,op:=.call { callee:=.builtin .append,args:=#[sl,x],argTypes:=#[T,U] },type:=ty,pos:=pos,after:=after,guard:=none } :: rest) a w:=by
  obtain ⟨A',cap',w',hr,h1,h2,h3⟩:=append_str ht hu hi hz hsize hby hown s hbytes hB ty;obtain ⟨k1,k2⟩:=h A' cap' w' h1 h2 h3;exact wpLx_append hs hx hr k1 k2
theorem SlW.hi2 {P : Program} {T E : TypeId} {k bytes : Nat} {w : World} {A : Option Addr} {n cap : Nat} {L : List (Array Value)} (I : ElemInfo P T E k bytes) (h : SlW w A n cap k L) {m : Nat} (hm : m ≤ n) :
    ∃ A2 c2,(∀ w0 : World,(slS T (.slice A n cap) (some (.int .i64 m)) none none).run P w0 = .ok (.slice A2 (n - m) c2) w0) ∧ (∀ w' : World,SlR w' A n k L → SlW w' A2 (n - m) c2 k (L.drop m)):=by
  have hle:=h.le;refine ⟨if cap = m then A else A.map fun a=>a.add (m * k),cap - m,fun w0=>?_,fun w' hL=>⟨?_,by omega,?_,?_⟩⟩
  · rw [run_slS I];unfold Instr.slice Instr.sliceBounds;simp only [Sem.run_bind,run_underlying I.und,Result.andThen_ok,Sem.run_pure,run_bound w0 m n hm,I.sizeOf_run w0,Option.isSome_none,Bool.false_eq_true,if_false]
  · by_cases hcm : cap = m
    · have : n - m = 0:=by omega
      rw [this];exact ⟨by rw [List.length_drop,hL.1];omega,fun h=>absurd h (by omega)⟩
    · rw [if_neg hcm];cases A with
      | none=>exact absurd (h.nil rfl) (by omega)
      | some a =>
        obtain ⟨g,o,sp⟩:=a;have : sp = none:=h.plain _ rfl;subst this;have e : (⟨g,o,none⟩ : Addr).add (m * k) = ⟨g,o + m * k,none⟩:=by unfold Addr.add;split <;> simp_all
        simp only [Option.map_some,e];exact hL.drop_ hm
  · intro e;by_cases hcm : cap = m
    · omega
    · rw [if_neg hcm] at e;cases A with
      | none=>have:=h.nil rfl;omega
      | some a=>cases e
  · intro a e;by_cases hcm : cap = m
    · rw [if_pos hcm] at e;exact h.plain _ e
    · rw [if_neg hcm] at e;cases A with
      | none=>cases e
      | some a' =>
        have hp:=h.plain _ rfl;obtain ⟨g,o,sp⟩:=a';simp only at hp;subst hp;simp only [Option.map_some] at e;injection e with e
        rw [← e];unfold Addr.add;split <;> rfl
def cellLen (w : World) (p : Addr) : Nat:=match w.cell? p with | some (.slice _ n _)=>n | _=>0
@[go_sem ↓] theorem slU8_rw (x : Value) (lo hi mx : Option Value) : Instr.sliceAt 89 x lo hi mx = slS 89 x lo hi mx:=rfl
@[go_sem] theorem slU8_nil (w : World) : (slS 89 (.slice none 0 0) none (some (.int .i64 0)) (some (.int .i64 0))).run Tryz.prog w = .ok (.slice none 0 0) w:=by kernel_rfl
set_option maxRecDepth 100000 in
set_option maxHeartbeats 4000000 in
theorem sha_write (w : World) (g : Nat) (T : TypeId) (st : StU) (s : ByteArray) (hv : ShaVars w) (hg : w.heap[g]? = some (.cells (haC st (.slice none 0 0) 0) T (0,0))) (hs : s.size ≤ 1000000) (hgf : g ≠ 0) (hgk : g ≠ 1) :
    Calls Tryz.prog 50 #[.pointer (some ⟨g,0,none⟩),.string s] w fun e w'=>e = .returned (.int .i64 s.size) ∧ ∃ A cap,w'.heap[g]? = some (.cells (haC (blkU (s.size / 64) st s.data.toList) (.slice A (s.size % 64) cap) s.size) T (0,0)) ∧ SlW w' A (s.size % 64) cap 1 (bytesR (s.data.toList.drop (64 * (s.size / 64)))) ∧ Keep [g] w w':=by
  have hgl : g < w.heap.size:=(Array.getElem?_eq_some_iff.1 hg).1;obtain ⟨c8,c9,c10,cf⟩:=haC_c hg;have f9:=cf 9;have cn:=sha_none w g c10;obtain ⟨l,hl⟩ : ∃ l,s.data.toList = l:=⟨_,rfl⟩
  have hll : l.length = s.size:=by rw [← hl];rfl
  rw [hl];have Hll:=Lib.hid hll;have Hl:=Lib.hid hl;clear hl hll;go_enter Tryz.func50,Tryz.ntmps50
  (go_wp2_with fail);refine cn.mono ?_;rintro e w1 ⟨rfl,rfl⟩;clear cn;go_upto_region 4 with fail
  have hg9:=heap_setCell_same hg 9 (.int .i64 s.size);rw [haC_set9] at hg9;have hk9:=Keep.setCell w ⟨g,9,none⟩ (.int .i64 s.size);obtain ⟨W,hW⟩ : ∃ W,W = w.setCell ⟨g,9,none⟩ (.int .i64 s.size):=⟨_,rfl⟩
  rw [← hW] at hg9 hk9 ⊢;have hvW : ShaVars W:=hv.kept hk9 (by simp;omega) (by simp;omega);have hgW : g < W.heap.size:=(Array.getElem?_eq_some_iff.1 hg9).1;clear hW hg c8 c9 c10 cf f9 hv;obtain ⟨c8,c9,c10,cf⟩:=haC_c hg9;obtain ⟨i,i1,i2,i3,i4⟩:=byteInfo;have hqn : g ∉ ([] : List Nat):=by simp
  refine wp_region_lexf (Kp ([] : List Nat) W) false (by kernel_rfl) (by kernel_rfl) (by kernel_rfl) (by kernel_rfl) (kp_drew ([] : List Nat) W) ?_;have hne:=kp_some ([] : List Nat) W;have hS:=kp_drew ([] : List Nat) W;have b0:=ksub_cell c8 hqn;repeat (refine wpLx_loose ?_ ?_;(focus (simp only [chainOp];done));intro K hK;go_simp;refine hK _ ?_;clear hK K)
  have ho : Own W.drew W.drew.heap.size 5 1 none 0 0 (bytesR []):=Own.nil _ _ _ _;refine Lx_append_str Tryz.underlying89 Tryz.underlying9 i1 i2 i3 i4 rfl ho rfl (by omega) (Nat.le_refl _) ?_;intro A' cap' w2 ho2 hk2 hsub2;have hS2 : Keep [] W w2:=Keep.trans (Keep.drew W) hk2 (by simp [blk]);refine step_keep hS2 (fun hS3=>?_);repeat (refine wpLx_loose ?_ ?_;(focus (simp only [chainOp];done));intro K hK;go_simp;refine hK _ ?_;clear hK K)
  have hg2:=(hS2.block g hgW hqn).trans hg9;obtain ⟨d8,_,_,df⟩:=haC_c hg2;have f8:=df 8;refine wpLx_end ?_ ?_;(focus (simp only [chainOp];done));intro K hK;go_simp;refine hK _ _ ?_;clear hK K;simp only [Nat.zero_add,List.nil_append] at ho2 ⊢;have hg3:=heap_setCell_same hg2 8 (.slice A' s.size cap');rw [haC_set8] at hg3;have hk3:=Keep.setCell w2 ⟨g,8,none⟩ (.slice A' s.size cap');have hbA : ∀ x ∈ blk A',x ≠ g:=fun x hx=>(by have:=(ho2.at_base hx).1;have : W.heap.size ≤ W.drew.heap.size:=Nat.le_refl _;omega);have hkz : Keep [g] w (w2.setCell ⟨g,8,none⟩ (.slice A' s.size cap')):=Keep.trans (Keep.trans hk9 (hS2.mono (S':=[g]) (by simp)) (fun x hx=>.inl hx)) hk3 (fun x hx=>.inl hx);have ho3:=(ho2.kept hk3 (fun x hx=>by simpa using hbA x hx)).slw;have hv3 : ShaVars (w2.setCell ⟨g,8,none⟩ (.slice A' s.size cap')):=(hvW.kept hS2 (by simp) (by simp)).kept hk3 (by simp;omega) (by simp;omega);clear ho2 ho hk2 hsub2 hS hne hS3 b0 c8 c9 c10 cf d8 df f8 hg2 hk3 hg9 hk9 hvW hqn;obtain ⟨Z,hZ⟩ : ∃ Z,Z = w2.setCell ⟨g,8,none⟩ (.slice A' s.size cap'):=⟨_,rfl⟩
  rw [← hZ] at hg3 hkz ho3 hv3 ⊢;have hgZ : g < Z.heap.size:=(Array.getElem?_eq_some_iff.1 hg3).1;clear hZ hS2;rw [Hl.out] at ho3;go_upto_region 5 with fail
  go_loopw [] (fun wr=>∃ (k : Nat) (A3 : Option Addr) (cap3 : Nat),64 * k ≤ s.size ∧ wr.heap[g]? = some (.cells (haC (blkU k st l) (.slice A3 (s.size - 64 * k) cap3) s.size) T (0,0)) ∧ SlW wr A3 (s.size - 64 * k) cap3 1 (bytesR (l.drop (64 * k))) ∧ Hid (∀ w',SlR w' A' s.size 1 (bytesR l) → SlR w' A3 (s.size - 64 * k) 1 (bytesR (l.drop (64 * k)))) ∧ Keep [g] Z wr) (fun wr=>cellLen wr ⟨g,8,none⟩)
  case atStart=>exact ⟨0,A',cap',by omega,hg3,ho3,(show ∀ w',_ from fun w' h=>h),Keep.refl _ _⟩
  case round =>
    obtain ⟨k,A3,cap3,hk,hgr,hsl,hrd,hkp⟩:=hrel;obtain ⟨c8,c9,c10,cf⟩:=haC_c hgr;obtain ⟨n,hn⟩ : ∃ n,s.size - 64 * k = n:=⟨_,rfl⟩
    rw [hn] at hgr hsl c8 hrd;have Hn:=Lib.hid hn;have Hm:=Lib.hid (show cellLen wr ⟨g,8,none⟩ = n by unfold cellLen;rw [c8]);have hvr : ShaVars wr:=hv3.kept hkp (by simp;omega) (by simp;omega);clear hn;by_cases hlt : 64 ≤ n
    · obtain ⟨A4,c4,hrun,hrd4⟩:=hsl.hi2 einfoByte (m:=64) hlt;have hlo : ∀ w0 : World,(slS 89 (.slice A3 n cap3) none (some (.int .i64 64)) none).run Tryz.prog w0 = .ok (.slice A3 64 cap3) w0:=fun w0=>hsl.lo einfoByte (m:=64) hlt w0;have hrun' : ∀ w0 : World,(slS 89 (.slice A3 n cap3) (some (.int .i64 64)) none none).run Tryz.prog w0 = .ok (.slice A4 (n - 64) c4) w0:=hrun;have hb64 : BytesIn wr A3 64 ((l.drop (64 * k)).take 64):=by
        have h1:=hsl.rd.take_ (m:=64) hlt;unfold bytesR at h1;rw [← List.map_take] at h1;exact h1
      have hqn : g ∉ ([] : List Nat):=by simp
      have ct:=turn_any wr.drew g T (blkU k st l) #[.slice A3 n cap3,.int .i64 s.size,.bool true] A3 cap3 ((l.drop (64 * k)).take 64) (hvr.kept (Keep.drew wr) (by simp) (by simp)) hgr (hb64.kept (Keep.drew wr) (by simp)) hgf hgk;clear hrun hb64;go_upto_region 6 with fail
      refine wp_region_lexf (Kp ([] : List Nat) wr) false (by kernel_rfl) (by kernel_rfl) (by kernel_rfl) (by kernel_rfl) (kp_drew ([] : List Nat) wr) ?_;have hne:=kp_some ([] : List Nat) wr;have hS:=kp_drew ([] : List Nat) wr;have b0:=ksub_cell c8 hqn;repeat (refine wpLx_loose ?_ ?_;(focus (simp only [chainOp];done));intro K hK;go_simp;refine hK _ ?_;clear hK K)
      refine wpLx_end ?_ ?_;(focus (simp only [chainOp];done));intro K hK;go_simp;refine ct.mono ?_;rintro e w5 ⟨rfl,hg5,hk5⟩;refine ⟨_,rfl,hK _ _ ?_⟩;clear hK K ct hne hS b0 c9 c10 cf hgr hlo;have hst : turnU (blkU k st l) ((l.drop (64 * k)).take 64) = blkU (k + 1) st l:=(blkU_snoc k st l).symm;rw [hst] at hg5;have hg5' : w5.heap[g]? = some (.cells (haC (blkU (k + 1) st l) (.slice A3 n cap3) s.size) T (0,0)):=hg5;have hkd : Keep [g] wr w5:=Keep.trans ((Keep.drew wr).mono (S':=[g]) (by simp)) hk5 (fun x hx=>.inl hx);obtain ⟨c8,_,_,cf⟩:=haC_c hg5';have f8:=cf 8;have hg6:=heap_setCell_same hg5' 8 (.slice A4 (n - 64) c4);rw [haC_set8] at hg6;have hk6:=Keep.setCell w5 ⟨g,8,none⟩ (.slice A4 (n - 64) c4);have hkf : Keep [g] Z (w5.setCell ⟨g,8,none⟩ (.slice A4 (n - 64) c4)):=Keep.trans (Keep.trans hkp hkd (fun x hx=>.inl hx)) hk6 (fun x hx=>.inl hx);have hl0:=ho3.rd.kept hkf (fun x hx=>by simpa using hbA x hx);have hsl6:=hrd4 _ (hrd.out _ hl0);have hdd : (bytesR (l.drop (64 * k))).drop 64 = bytesR (l.drop (64 * (k + 1))):=by
        unfold bytesR;rw [← List.map_drop,List.drop_drop,show 64 * k + 64 = 64 * (k + 1) by omega]
      rw [hdd] at hsl6;have hrd6 : Hid (∀ w',SlR w' A' s.size 1 (bytesR l) → SlR w' A4 (n - 64) 1 (bytesR (l.drop (64 * (k + 1))))):=(show ∀ w',_ → _ from fun w' h=>by
        have:=(hrd4 w' (hrd.out w' h)).rd;rwa [hdd] at this)
      have Hsl6:=Lib.hid hsl6;have Hm2 : Hid (cellLen (w5.setCell ⟨g,8,none⟩ (.slice A4 (n - 64) c4)) ⟨g,8,none⟩ = n - 64):=by
        show _ = _;obtain ⟨e8,_⟩:=haC_c hg6;unfold cellLen;rw [e8]
      have hn2 : s.size - 64 * (k + 1) = n - 64:=by have:=Hn.out;omega
      have Hn2:=Lib.hid hn2;have hle2 : 64 * (k + 1) ≤ s.size:=by have:=Hn.out;omega
      clear hst hg5 hg5' hkd hk6 hl0 hsl6 hdd hn2 hrd4 hsl hvr hkp hrd hk5;(go_wp2_with fail);go_roundw
      case rel=>exact ⟨k + 1,A4,c4,hle2,(by rw [Hn2.out];exact hg6),(by rw [Hn2.out];exact Hsl6.out),(by rw [Hn2.out];exact hrd6),hkf⟩
      case measure=>rw [Hm.out,Hm2.out];omega
    · have hkk : k = s.size / 64:=by have:=Hn.out;omega
      have hnm : n = s.size % 64:=by have:=Hn.out;omega
      have hkf : Keep [g] w wr:=Keep.trans hkz hkp (fun x hx=>.inl hx);rw [hnm] at hsl hgr;rw [hkk] at hgr hsl;have Hgr:=Lib.hid hgr;have Hsl:=Lib.hid hsl;clear hkk hnm hgr hsl hrd hvr c9 c10 cf;(go_wp2_with fail);go_ret;exact ⟨rfl,A3,cap3,Hgr.out,Hsl.out,hkf⟩
end
section
open Go.RowKit
theorem id_congr {a b : List UInt8} {ha : a.length = 32} {hb : b.length = 32} (h : a = b) : (⟨a,ha⟩ : Id32) = ⟨b,hb⟩:=Id32.ext' h
def outA (s : StU) (k : Nat) : Array Value:=(((s.l.take k).flatMap b4U).map byteC ++ List.replicate (32 - 4 * k) (Value.int .u8 0)).toArray
theorem outA_zero (s : StU) : outA s 0 = idC id0:=by unfold outA idC id0;simp [byteC]
theorem outU_flat (s : StU) : s.l.flatMap b4U = outU s:=by simp [StU.l,outU]
theorem outA_full (s : StU) : outA s 8 = idC ⟨outU s,outU_length s⟩:=by
  unfold outA idC;rw [show s.l.take 8 = s.l from rfl,outU_flat];simp
theorem flat4 (L : List UInt32) : (L.flatMap b4U).length = 4 * L.length:=by
  induction L with
  | nil=>rfl
  | cons a L ih=>rw [List.flatMap_cons,List.length_append,ih,b4U_length,List.length_cons];omega
theorem outA_size (s : StU) {k : Nat} (hk : k ≤ 8) : (outA s k).size = 32:=by
  have h:=flat4 (s.l.take k);have h8:=s.l_len;simp only [outA,List.size_toArray,List.length_append,List.length_map,List.length_replicate,h,List.length_take];omega
theorem outA_set (s : StU) {k : Nat} (hk : k < 8) (x : UInt32) (hx : s.l.getD k 0 = x) :
    ((((outA s k).setIfInBounds (4 * k) (byteC (x >>> 24).toUInt8)).setIfInBounds (4 * k + 1) (byteC (x >>> 16).toUInt8)).setIfInBounds (4 * k + 2) (byteC (x >>> 8).toUInt8)).setIfInBounds (4 * k + 3) (byteC x.toUInt8) = outA s (k + 1):=by
  have hL : k < s.l.length:=hk;have e1 : s.l.take (k + 1) = s.l.take k ++ [x]:=by
    rw [List.take_add_one,List.getElem?_eq_getElem hL,← hx,List.getD_eq_getElem?_getD,List.getElem?_eq_getElem hL];rfl
  obtain ⟨P,hP⟩ : ∃ P,((s.l.take k).flatMap b4U).map byteC = P:=⟨_,rfl⟩
  have hPl : P.length = 4 * k:=by rw [← hP,List.length_map,flat4,List.length_take];have:=s.l_len;omega
  apply Array.ext';unfold outA;rw [e1,List.flatMap_append,List.map_append,hP];simp only [Array.toList_setIfInBounds];rw [show 32 - 4 * k = (28 - 4 * k) + 1 + 1 + 1 + 1 by omega,show 32 - 4 * (k + 1) = 28 - 4 * k by omega];simp only [List.replicate_succ,List.flatMap_cons,List.flatMap_nil,List.append_nil,b4U,List.map_cons,List.map_nil,List.append_assoc];rw [← hPl];simp [List.set_append]
theorem w24 (x : UInt32) : nU x / (16777216 : Int) % (256 : Int) = (((x >>> 24).toUInt8.toNat : Nat) : Int):=by
  have h:=u_shr x 24 (by omega);rw [show ((2 : Int) ^ 24) = 16777216 from rfl] at h;rw [h];simp [nU]
theorem w16 (x : UInt32) : nU x / (65536 : Int) % (256 : Int) = (((x >>> 16).toUInt8.toNat : Nat) : Int):=by
  have h:=u_shr x 16 (by omega);rw [show ((2 : Int) ^ 16) = 65536 from rfl] at h;rw [h];simp [nU]
theorem w8 (x : UInt32) : nU x / (256 : Int) % (256 : Int) = (((x >>> 8).toUInt8.toNat : Nat) : Int):=by
  have h:=u_shr x 8 (by omega);rw [show ((2 : Int) ^ 8) = 256 from rfl] at h;rw [h];simp [nU]
theorem w0 (x : UInt32) : nU x % (256 : Int) = ((x.toUInt8.toNat : Nat) : Int):=by
  simp [nU]
theorem haC_row {w : World} {g : Nat} {s : StU} {r : Value} {n : Int} {T : TypeId} (h : w.heap[g]? = some (.cells (haC s r n) T (0,0))) : rowAt w g 0 8 = some (wsC s.l):=by
  unfold rowAt;rw [h];have e : (wsC s.l).size = 8:=by rw [wsC_size];rfl
  simp only [Nat.zero_add];rw [if_pos (by simp [e])];rw [← e];simp
set_option maxRecDepth 100000 in
set_option maxHeartbeats 4000000 in
theorem sha_sumH (w : World) (g : Nat) (T : TypeId) (s : StU) (A : Option Addr) (m cap N : Nat) (rest : List UInt8) (hv : ShaVars w) (hg : w.heap[g]? = some (.cells (haC s (.slice A m cap) N) T (0,0))) (h : SlW w A m cap 1 (bytesR rest)) (hN : N ≤ 1000000) (hm : m = N % 64) :
    Calls Tryz.prog 51 #[.pointer (some ⟨g,0,none⟩)] w fun e w'=>e = .returned (.agg (idC ⟨outU (blkU ((m + (padU N).length) / 64) s (rest ++ padU N)),outU_length _⟩)) ∧ Below w.heap.size w w':=by
  have hgl : g < w.heap.size:=(Array.getElem?_eq_some_iff.1 hg).1;have hb0 : Below w.heap.size w (w.alloc (.cells (idC id0) 24)):=(Below.refl _ _).alloc (Nat.le_refl _) _;have hg0:=(hb0.block g hgl).trans hg;obtain ⟨c8,c9,c10,cf⟩:=haC_c hg0;have hrow:=haC_row hg0;have cn:=sha_none _ g c10;have hid:=heap_alloc_new w (.cells (idC id0) 24);have hv0:=hv.below hb0;have hsl0:=h.below hb0;have hst:=storeSt8_run (w.alloc (.cells (idC id0) 24)) (w.heap.size + 1) (by simp) (wsC (zU 8)) (by simp [zU_length]) s.l s.l_len 157;have hb1 : Below w.heap.size w ((w.alloc (.cells (idC id0) 24)).alloc (.cells (wsC s.l) 157)):=hb0.alloc (by simp) _;have hn1:=heap_alloc_new (w.alloc (.cells (idC id0) 24)) (.cells (wsC s.l) 157);rw [show (w.alloc (.cells (idC id0) 24)).heap.size = w.heap.size + 1 by simp] at hn1;have hid1 : ((w.alloc (.cells (idC id0) 24)).alloc (.cells (wsC s.l) 157)).heap[w.heap.size]? = some (.cells (idC id0) 24 (0,0)):=by
    rw [Below.heap_alloc _ _ _ (by simp)];exact hid
  have hv1:=hv.below hb1;have hsl1:=h.below hb1;have hg1:=(hb1.block g hgl).trans hg;have hltF:=hv.ltF;have hltK:=hv.ltK;obtain ⟨M,hM⟩ : ∃ M,m + (padU N).length = M:=⟨_,rfl⟩
  have hM64 : M % 64 = 0:=by rw [← hM,hm];have:=padU_whole N;omega
  obtain ⟨l,hl⟩ : ∃ l,rest ++ padU N = l:=⟨_,rfl⟩
  rw [hM,hl];clear h hv hg hv0 hsl0;go_enter Tryz.func51,Tryz.ntmps51
  (go_wp2_with fail);refine cn.mono ?_;rintro e w1 ⟨rfl,rfl⟩;clear cn;go_upto_region 4 with fail
  obtain ⟨ga,hga⟩ : ∃ ga,w.heap.size = ga:=⟨_,rfl⟩
  have Hga:=Lib.hid hga;obtain ⟨W,hW⟩ : ∃ W,W = (w.alloc (.cells (idC id0) 24)).alloc (.cells (wsC s.l) 157):=⟨_,rfl⟩
  rw [← hW] at hb1 hn1 hid1 hv1 hsl1 hg1 ⊢;rw [hga] at hgl hn1 hid1 hltF hltK ⊢;have hgaW : ga + 1 < W.heap.size:=(Array.getElem?_eq_some_iff.1 hn1).1;clear hb0 hg0 c8 c9 c10 cf hrow hid hst hW hga;obtain ⟨c8,c9,c10,cf⟩:=haC_c hg1;have ce:=sha_end W.drew A m cap rest (hsl1.kept (Keep.drew W) (by simp)) N hN hm;rw [hM,hl] at ce;have HM64:=Lib.hid hM64;have hqn : g ∉ ([] : List Nat):=by simp
  have Hm:=Lib.hid hm;clear hM hl hM64 hm;refine wp_region_lex (Kp ([] : List Nat) W) false (by kernel_rfl) (by kernel_rfl) (by kernel_rfl) (kp_drew ([] : List Nat) W) ?_;have hne:=kp_some ([] : List Nat) W;have hS:=kp_drew ([] : List Nat) W;have b0:=ksub_cell c8 hqn;have b1:=ksub_cell c9 hqn;repeat (refine wpLx_loose ?_ ?_;(focus (simp only [chainOp];done));intro K hK;go_simp;refine hK _ ?_;clear hK K)
  refine wpLx_chain ?_ ?_ ?_;(focus (exact hS));(focus (simp only [chainOp];done));intro K hK;go_simp;refine ce.mono ?_;rintro e w2 ⟨A',cap',rfl,ho,hb2⟩;replace hS:=kp_below hS hb2;refine ⟨_,rfl,hS,hK _ _ ?_⟩;clear hK K;repeat (refine wpLx_loose ?_ ?_;(focus (simp only [chainOp];done));intro K hK;go_simp;refine hK _ ?_;clear hK K)
  refine wpLx_nil ?_;intro hS;have hS0 : Keep [] W w2:=hS;have hbA : ∀ x ∈ blk A',x ≠ ga + 1:=fun x hx=>(by have:=(ho.at_base hx).1;have : W.heap.size ≤ W.drew.heap.size:=Nat.le_refl _;omega);have hsl2:=ho.slw;have hn2 : w2.heap[ga + 1]? = some (.cells (wsC s.l ++ #[]) 157 (0,0)):=by rw [hS0.block (ga + 1) hgaW (by simp),hn1];simp
  have hid2:=(hS0.block ga (by omega) (by simp)).trans hid1;have hv2:=hv1.kept hS0 (by simp) (by simp);have hbw2 : Below w.heap.size w w2:=hb1.trans (hS0.below hb1.size (by simp));have hg2l : ga + 1 < w2.heap.size:=by have:=hS0.size;omega
  clear ho ce hne hS hb2 b0 b1 c8 c9 c10 cf hg1 hsl1 hv1 hid1 hn1 hb1 hqn hS0;go_upto_region 5 with fail
  go_loopw [4] (fun sv wr=>∃ (k : Nat) (A3 : Option Addr) (cap3 : Nat),64 * k ≤ M ∧ sv = .slice A3 (M - 64 * k) cap3 ∧ wr.heap[ga + 1]? = some (.cells (wsC (blkU k s l).l ++ #[]) 157 (0,0)) ∧ SlW wr A3 (M - 64 * k) cap3 1 (bytesR (l.drop (64 * k))) ∧ Hid (∀ w',SlR w' A' M 1 (bytesR l) → SlR w' A3 (M - 64 * k) 1 (bytesR (l.drop (64 * k)))) ∧ Keep [ga + 1] w2 wr) (fun sv _=>slLen sv)
  case atStart=>exact ⟨0,A',cap',by omega,rfl,hn2,hsl2,(show ∀ w',_ from fun w' h=>h),Keep.refl _ _⟩
  case round =>
    obtain ⟨k,A3,cap3,hk,rfl,hgr,hsl,hrd,hkp⟩:=hrel;obtain ⟨n,hn⟩ : ∃ n,M - 64 * k = n:=⟨_,rfl⟩
    rw [hn] at hsl hrd ⊢;have Hn:=Lib.hid hn;have hvr : ShaVars wr:=hv2.kept hkp (by simp) (by simp;omega);clear hn;by_cases hlt : 0 < n
    · have h64 : 64 ≤ n:=by have:=Hn.out;have:=HM64.out;omega
      obtain ⟨A4,c4,hrun,hrd4⟩:=hsl.hi2 einfoByte (m:=64) h64;have hlo : ∀ w0 : World,(slS 89 (.slice A3 n cap3) none (some (.int .i64 64)) none).run Tryz.prog w0 = .ok (.slice A3 64 cap3) w0:=fun w0=>hsl.lo einfoByte (m:=64) h64 w0;have hrun' : ∀ w0 : World,(slS 89 (.slice A3 n cap3) (some (.int .i64 64)) none none).run Tryz.prog w0 = .ok (.slice A4 (n - 64) c4) w0:=hrun;have hb64 : BytesIn wr A3 64 ((l.drop (64 * k)).take 64):=by
        have h1:=hsl.rd.take_ (m:=64) h64;unfold bytesR at h1;rw [← List.map_take] at h1;exact h1
      have ct:=turn_any wr (ga + 1) 157 (blkU k s l) #[] A3 cap3 ((l.drop (64 * k)).take 64) hvr hgr hb64 (by show ga + 1 ≠ _;omega) (by show ga + 1 ≠ _;omega);have hst : turnU (blkU k s l) ((l.drop (64 * k)).take 64) = blkU (k + 1) s l:=(blkU_snoc k s l).symm;rw [hst] at ct;clear hrun hb64 hst hgr;(go_wp2_with fail);refine ct.mono ?_;rintro e w5 ⟨rfl,hg5,hk5⟩;have hkf : Keep [ga + 1] w2 w5:=Keep.trans hkp hk5 (fun x hx=>.inl hx);have hl0:=hsl2.rd.kept hkf (fun x hx=>by simpa using hbA x hx);have hsl6:=hrd4 _ (hrd.out _ hl0);have hdd : (bytesR (l.drop (64 * k))).drop 64 = bytesR (l.drop (64 * (k + 1))):=by
        unfold bytesR;rw [← List.map_drop,List.drop_drop,show 64 * k + 64 = 64 * (k + 1) by omega]
      rw [hdd] at hsl6;have hrd6 : Hid (∀ w',SlR w' A' M 1 (bytesR l) → SlR w' A4 (n - 64) 1 (bytesR (l.drop (64 * (k + 1))))):=(show ∀ w',_ → _ from fun w' h=>by
        have:=(hrd4 w' (hrd.out w' h)).rd;rwa [hdd] at this)
      have hn2 : M - 64 * (k + 1) = n - 64:=by have:=Hn.out;omega
      have Hn2:=Lib.hid hn2;have hle2 : 64 * (k + 1) ≤ M:=by have:=Hn.out;omega
      have Hsl6:=Lib.hid hsl6;clear ct hlo hl0 hsl6 hdd hn2 hrd4 hsl hvr hkp hrd hk5;(go_wp2_with fail);go_roundw
      case rel=>exact ⟨k + 1,A4,c4,hle2,(by rw [Hn2.out]),hg5,(by rw [Hn2.out];exact Hsl6.out),(by rw [Hn2.out];exact hrd6),hkf⟩
      case measure=>simp [slLen];omega
    · have hkM : k = M / 64:=by have:=Hn.out;have:=HM64.out;omega
      obtain ⟨F,hF⟩ : ∃ F,blkU (M / 64) s l = F:=⟨_,rfl⟩
      rw [hkM,hF] at hgr;have HF:=Lib.hid hF;have hgr' : wr.heap[ga + 1]? = some (.cells (wsC F.l) 157 (0,0)):=by rw [hgr];simp
      have hrow : rowAt wr (ga + 1) 0 8 = some (wsC F.l):=by unfold rowAt;rw [hgr'];simp [F.l_len]
      have hidr:=(hkp.block ga (by omega) (by simp)).trans hid2;have hbr : Below w.heap.size w wr:=hbw2.trans (hkp.below hbw2.size (by simp;have:=Hga.out;omega));have hgaR : ga + 1 < wr.heap.size:=by have:=hkp.size;omega
      have hgn:=heap_alloc_new wr (.cells (idC id0) 24);have hbn : Below w.heap.size w (wr.alloc (.cells (idC id0) 24)):=hbr.alloc hbr.size _;have hidn:=(Below.heap_alloc wr (.cells (idC id0) 24) ga (by omega)).trans hidr;have hrown : rowAt (wr.alloc (.cells (idC id0) 24)) (ga + 1) 0 8 = some (wsC F.l):=(rowAt_of_block (Below.heap_alloc wr (.cells (idC id0) 24) (ga + 1) hgaR) _ _).trans hrow;clear hF hgr hgr' hsl hrd hvr hkp hkM hrow hidr hbr hn2 hsl2 hv2 hid2 hbw2 hg2l;go_upto_region 10 with fail
      obtain ⟨gb,hgb⟩ : ∃ gb,wr.heap.size = gb:=⟨_,rfl⟩
      obtain ⟨V,hV⟩ : ∃ V,V = wr.alloc (.cells (idC id0) 24):=⟨_,rfl⟩
      rw [← hV] at hgn hbn hidn hrown ⊢;rw [hgb] at hgn hgaR ⊢;have hgbV : gb < V.heap.size:=(Array.getElem?_eq_some_iff.1 hgn).1;clear hV hgb;go_loopw [6,7,34] (fun _ _ iv wr=>∃ i : Nat,i ≤ 8 ∧ iv = .int .i64 i ∧ wr.heap[gb]? = some (.cells (outA F i) 24 (0,0)) ∧ Keep [gb] V wr) (fun _ _ iv _=>8 - (intOf iv).toNat)
      case atStart=>exact ⟨0,by omega,rfl,(by rw [outA_zero];exact hgn),Keep.refl _ _⟩
      case round =>
        clear hgn;obtain ⟨i,hi,rfl,hc,hkp⟩:=hrel;by_cases hlt : i < 8
        · obtain ⟨m4,hm4⟩ : ∃ m4 : Nat,4 * i = m4:=⟨_,rfl⟩
          have em : 4 * (i : Int) = (m4 : Int):=by omega
          have l0 : (m4 : Int) < 32:=by omega
          have l1 : 0 ≤ (m4 : Int) + 1 ∧ (m4 : Int) + 1 < 32:=by omega
          have l2 : 0 ≤ (m4 : Int) + 2 ∧ (m4 : Int) + 2 < 32:=by omega
          have l3 : 0 ≤ (m4 : Int) + 3 ∧ (m4 : Int) + 3 < 32:=by omega
          have t2 : ((m4 : Int) + 2).toNat = m4 + 2:=by omega
          have t3 : ((m4 : Int) + 3).toNat = m4 + 3:=by omega
          obtain ⟨x,hx⟩ : ∃ x,F.l.getD i 0 = x:=⟨_,rfl⟩
          have hset:=outA_set F hlt x hx;have e24:=w24 x;have e16:=w16 x;have e8:=w8 x;have e0:=w0 x;rw [hm4] at hset;obtain ⟨b0,hb0⟩ : ∃ b,(x >>> 24).toUInt8 = b:=⟨_,rfl⟩
          obtain ⟨b1,hb1⟩ : ∃ b,(x >>> 16).toUInt8 = b:=⟨_,rfl⟩
          obtain ⟨b2,hb2⟩ : ∃ b,(x >>> 8).toUInt8 = b:=⟨_,rfl⟩
          obtain ⟨b3,hb3⟩ : ∃ b,x.toUInt8 = b:=⟨_,rfl⟩
          rw [hb0,hb1,hb2,hb3] at hset;rw [hb0] at e24;rw [hb1] at e16;rw [hb2] at e8;rw [hb3] at e0;clear hb0 hb1 hb2 hb3;have y1 : (wsC F.l)[i]? = some (.int .u32 (nU x)):=by rw [wsC_get F.l hlt,hx]
          have hix:=index_w (t:=157) Tryz.underlying157 hlt y1 wr;have hsz:=outA_size F hi;have h1:=heap_setCell_same hc m4 (byteC b0);have h2:=heap_setCell_same h1 (m4 + 1) (byteC b1);have h3:=heap_setCell_same h2 (m4 + 2) (byteC b2);have h4:=heap_setCell_same h3 (m4 + 3) (byteC b3);rw [hset] at h4;have k1:=Keep.setCell wr ⟨gb,m4,none⟩ (byteC b0);have k2:=Keep.setCell (wr.setCell ⟨gb,m4,none⟩ (byteC b0)) ⟨gb,m4 + 1,none⟩ (byteC b1);have k3:=Keep.setCell ((wr.setCell ⟨gb,m4,none⟩ (byteC b0)).setCell ⟨gb,m4 + 1,none⟩ (byteC b1)) ⟨gb,m4 + 2,none⟩ (byteC b2);have k4:=Keep.setCell (((wr.setCell ⟨gb,m4,none⟩ (byteC b0)).setCell ⟨gb,m4 + 1,none⟩ (byteC b1)).setCell ⟨gb,m4 + 2,none⟩ (byteC b2)) ⟨gb,m4 + 3,none⟩ (byteC b3);have kk:=Keep.trans (Keep.trans (Keep.trans (Keep.trans hkp k1 (fun x hx=>.inl hx)) k2 (fun x hx=>.inl hx)) k3 (fun x hx=>.inl hx)) k4 (fun x hx=>.inl hx);have hat : ∀ {w' : World} {c : Array Value} (_ : w'.heap[gb]? = some (.cells c 24 (0,0))) (_ : c.size = 32) (j : Nat) (_ : j < 32),(∃ v,w'.cell? ⟨gb,j,none⟩ = some v) ∧ w'.frozen? ⟨gb,j,none⟩ = false:=fun {w' c} h hs j hj=>⟨⟨c[j]'(by omega),by rw [cell_of_row w' gb j _ _ _ h,Array.getElem?_eq_getElem]⟩,by simp [World.frozen?,h]⟩;obtain ⟨⟨v0,c0⟩,f0⟩:=hat hc hsz m4 (by omega);obtain ⟨⟨v1,c1⟩,f1⟩:=hat h1 (by simp [hsz]) (m4 + 1) (by omega);obtain ⟨⟨v2,c2⟩,f2⟩:=hat h2 (by simp [hsz]) (m4 + 2) (by omega);obtain ⟨⟨v3,c3⟩,f3⟩:=hat h3 (by simp [hsz]) (m4 + 3) (by omega);have H4:=Lib.hid h4;have Kk:=Lib.hid kk;clear hset hx h1 h2 h3 h4 k1 k2 k3 k4 kk hat hsz hm4 hkp hc y1;unfold byteC at c1 c2 c3 f1 f2 f3;(go_wp2_with fail);go_roundw
          case rel=>exact ⟨i + 1,by omega,by go_num,H4.out,Kk.out⟩
          case measure=>simp [intOf];omega
        · have hi8 : i = 8:=by omega
          rw [hi8,outA_full] at hc;have hrow : rowAt wr gb 0 32 = some (idC ⟨outU F,outU_length F⟩):=by unfold rowAt;rw [hc];simp
          have hg2':=(hkp.block ga (by omega) (by simp;omega)).trans hidn;have hsto:=run_stS_at (P:=Tryz.prog) infoId wr ga (idC id0) (idC ⟨outU F,outU_length F⟩) _ hg2' (by simp) (by simp) (idC_one _);have Hfin:=Lib.hid (setRow_heap wr ga _ (idC ⟨outU F,outU_length F⟩) _ _ hg2');have hkf : Keep [ga] wr (wr.setRow ga (idC ⟨outU F,outU_length F⟩)):=⟨rfl,rfl,rfl,by simp [World.setRow],fun x _ hx=>setRow_other wr ga x _ (by simpa using hx)⟩
          have hkz:=Keep.trans (hkp.mono (S':=[ga,gb]) (by simp)) (hkf.mono (S':=[ga,gb]) (by simp)) (fun x hx=>.inl hx);have hbz : Below w.heap.size w (wr.setRow ga (idC ⟨outU F,outU_length F⟩)):=hbn.trans (hkz.below hbn.size (by simp;have:=Hga.out;omega));have Hbz:=Lib.hid hbz;clear hkf hkz hbz hg2' hc hi8 hkp hidn hbn hrown;(go_wp2_with fail);exact bodyPost_ret (results_cell_row Tryz.results51 _ _ ga 24 (idC ⟨outU F,outU_length F⟩) (0,0) _ rfl Hfin.out Tryz.underlying24 rfl (by rw [idC_size];exact infoId)) rfl ⟨by rw [HF.out],Hbz.out⟩
end
section
open Go.RowKit
set_option maxRecDepth 100000 in
theorem rconsts (w : World) : Calls Tryz.prog 31 #[] w fun e w'=>e = .returned (.slice (some ⟨w.heap.size,0,none⟩) 64 64) ∧ w' = w.alloc (.cells (wsC kU) 92):=by
  go_enter Tryz.func31,Tryz.ntmps31
  (go_wp2_with fail);go_ret;exact ⟨rfl,by kernel_rfl⟩
set_option maxRecDepth 100000 in
theorem rstart (w : World) : Calls Tryz.prog 30 #[] w fun e w'=>e = .returned (.agg (wsC firstU.l)) ∧ Below w.heap.size w w':=by
  have e : (((((((((wsC (zU 8)).setIfInBounds 0 (.int .u32 1779033703)).setIfInBounds 1 (.int .u32 3144134277)).setIfInBounds 2 (.int .u32 1013904242)).setIfInBounds 3 (.int .u32 2773480762)).setIfInBounds 4 (.int .u32 1359893119)).setIfInBounds 5 (.int .u32 2600822924)).setIfInBounds 6 (.int .u32 528734635)).setIfInBounds 7 (.int .u32 1541459225)) = wsC firstU.l:=by kernel_rfl
  have hst:=storeA8_run w w.heap.size rfl (wsC (zU 8)) (by simp [zU_length]) firstU.l firstU.l_len 93;have Hn:=Lib.hid (heap_alloc_new w (.cells (wsC firstU.l) 93));have hb : Below w.heap.size w (w.alloc (.cells (wsC firstU.l) 93)):=(Below.refl _ _).alloc (Nat.le_refl _) _;have Hb:=Lib.hid hb;clear hb;go_enter Tryz.func30,Tryz.ntmps30
  (go_wp2_with fail);exact bodyPost_ret (results_cell_row Tryz.results30 _ _ w.heap.size 93 (wsC firstU.l) (0,0) _ rfl Hn.out Tryz.underlying93 rfl (by rw [wsC_size,StU.l_len];exact infoA8)) rfl ⟨rfl,Hb.out⟩
end
end Go.Proofs.YtgedpfebepdcmaaGreatDoor
